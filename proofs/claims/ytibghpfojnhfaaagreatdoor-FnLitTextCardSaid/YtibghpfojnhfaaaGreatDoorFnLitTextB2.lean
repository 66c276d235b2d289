/-
  What the law leans on, part 2. No condition.
-/
import Derived.Test.YtibghpfojnhfaaaGreatDoorProg
import Derived.Shelf.Strconv.Itoa3
import Derived.Shelf.Strings.OnBuilder
import Derived.Shelf.Strconv.AtoiAll
import Derived.Shelf.Strings.SplitShaped
import Derived.Shelf.Small.Wraps
import Derived.Shelf.Strings.Cut
import Derived.Shelf.Strings.Prefix
import Derived.Test.YtibghpfojnhfaaaGreatDoorFnLitTextB1
/-
  What is left to show of each function's code, printed by a program: Ard. No condition.
-/
set_option maxRecDepth 100000
set_option linter.unusedVariables false
namespace Cg
open Go Go.Proofs
theorem vc_l4Word (s : ByteArray) (a : Nat) : ((∃ x : Nat, (x ≤ s.size ∧ x + Pl.wl (List.drop x (Pl.bl' s)) = a + Pl.wl (List.drop a (Pl.bl' s))) ∧ (s = s ∧ (↑a : Int) = (↑x : Int) ∧ True) ∧ True) ∧ ∀ (x : Nat),
 x ≤ s.size ∧ x + Pl.wl (List.drop x (Pl.bl' s)) = a + Pl.wl (List.drop a (Pl.bl' s)) →
 condP (decide ((↑x : Int) < (↑s.size : Int)))
 (((0 : Int) ≤ (↑x : Int) ∧ (↑x : Int) < (↑s.size : Int)) ∧ condP (decide ((↑(s.data.getD x (0 : UInt8)).toNat : Int) ≥ (97 : Int)))
 (((0 : Int) ≤ (↑x : Int) ∧ (↑x : Int) < (↑s.size : Int)) ∧ condP (decide ((↑(s.data.getD x (0 : UInt8)).toNat : Int) ≤ (122 : Int)))
 (Exists fun (x' : Nat) =>
 (x' ≤ s.size ∧ x' + Pl.wl (List.drop x' (Pl.bl' s)) = a + Pl.wl (List.drop a (Pl.bl' s))) ∧ s.size - x' < s.size - x ∧ (s = s ∧ IntKind.i64.wrap ((↑x : Int) + (1 : Int)) = (↑x' : Int) ∧ True) ∧ True)
 ((↑x : Int) = (↑(a + Pl.wl (List.drop a (Pl.bl' s))) : Int)))
 ((↑x : Int) = (↑(a + Pl.wl (List.drop a (Pl.bl' s))) : Int)))
 ((↑x : Int) = (↑(a + Pl.wl (List.drop a (Pl.bl' s))) : Int))) = Goal Tryz.prog [] (A_l4Word s a) K_l4Word.1 K_l4Word.2 ((s, a)) := by kernel_rfl

theorem vc_l4Read (n : Nat) (s : ByteArray) (a d : Nat) : (∃ x : ByteArray × Nat,
 (s = x.1 ∧ (↑a : Int) = (↑x.2 : Int) ∧ True) ∧ (x.1.size.le (1048576 : Nat) ∧ x.2 ≤ x.1.size) ∧ ((0 : Int) ≤ (↑a : Int) ∧ (↑a : Int) ≤ (↑(x.2 + Pl.wl (List.drop x.2 (Pl.bl' x.1))) : Int) ∧ (↑(x.2 + Pl.wl (List.drop x.2 (Pl.bl' x.1))) : Int) ≤ (↑s.size : Int)) ∧ condP ((↑(x.2 + Pl.wl (List.drop x.2 (Pl.bl' x.1))) : Int) == (↑a : Int))
 ((s.extract a (x.2 + Pl.wl (List.drop x.2 (Pl.bl' x.1))) = (Pl.rdT true d (List.drop a (Pl.bl' s))).1.1 ∧ Is (AV.lit (0 : Nat) (1 : Nat) fun (x x_1 : Nat) => AV.any) (terms (Pl.rdT true d (List.drop a (Pl.bl' s))).1.2) ∧ True) ∧ (-1 : Int) = Pl.posn s (Pl.rdT true d (List.drop a (Pl.bl' s))).2 ∧ True)
 (condP (decide ((↑d : Int) < (1 : Int)))
 ((s.extract a (x.2 + Pl.wl (List.drop x.2 (Pl.bl' x.1))) = (Pl.rdT true d (List.drop a (Pl.bl' s))).1.1 ∧ Is (AV.lit (0 : Nat) (1 : Nat) fun (x x_1 : Nat) => AV.any) (terms (Pl.rdT true d (List.drop a (Pl.bl' s))).1.2) ∧ True) ∧ (-1 : Int) = Pl.posn s (Pl.rdT true d (List.drop a (Pl.bl' s))).2 ∧ True)
 (condP (decide ((↑(x.2 + Pl.wl (List.drop x.2 (Pl.bl' x.1))) : Int) ≥ (↑s.size : Int)))
 ((s.extract a (x.2 + Pl.wl (List.drop x.2 (Pl.bl' x.1))) = (Pl.rdT true d (List.drop a (Pl.bl' s))).1.1 ∧ Is (AV.lit (0 : Nat) (1 : Nat) fun (x x_1 : Nat) => AV.any) (terms (Pl.rdT true d (List.drop a (Pl.bl' s))).1.2) ∧ True) ∧ (↑(x.2 + Pl.wl (List.drop x.2 (Pl.bl' x.1))) : Int) = Pl.posn s (Pl.rdT true d (List.drop a (Pl.bl' s))).2 ∧ True)
 (((0 : Int) ≤ (↑(x.2 + Pl.wl (List.drop x.2 (Pl.bl' x.1))) : Int) ∧ (↑(x.2 + Pl.wl (List.drop x.2 (Pl.bl' x.1))) : Int) < (↑s.size : Int)) ∧ condP ((↑(s.data.getD (x.2 + Pl.wl (List.drop x.2 (Pl.bl' x.1))) (0 : UInt8)).toNat : Int) != (40 : Int))
 ((s.extract a (x.2 + Pl.wl (List.drop x.2 (Pl.bl' x.1))) = (Pl.rdT true d (List.drop a (Pl.bl' s))).1.1 ∧ Is (AV.lit (0 : Nat) (1 : Nat) fun (x x_1 : Nat) => AV.any) (terms (Pl.rdT true d (List.drop a (Pl.bl' s))).1.2) ∧ True) ∧ (↑(x.2 + Pl.wl (List.drop x.2 (Pl.bl' x.1))) : Int) = Pl.posn s (Pl.rdT true d (List.drop a (Pl.bl' s))).2 ∧ True)
 ((∃ x_1 : Nat × List Pl.Tm,
 (x_1.1 ≤ s.size ∧ x_1.2.length ≤ (3 : Nat) ∧ (0 : Nat) < d ∧ Pl.kidsR (Pl.rdT true (d - (1 : Nat))) true (Pl.wname (List.drop a (Pl.bl' s))) ((3 : Nat) - x_1.2.length) x_1.2 (List.drop x_1.1 (Pl.bl' s)) =
 Pl.rdT true d (List.drop a (Pl.bl' s))) ∧ (s = s ∧ (↑(x.2 + Pl.wl (List.drop x.2 (Pl.bl' x.1))) : Int) = (↑x_1.1 : Int) ∧ (↑d : Int) = (↑d : Int) ∧ (0 : Nat) = (0 : Nat) ∧ (0 : Nat) = (0 : Nat) ∧ True) ∧ (ByteArray.mk #[] = ByteArray.empty ∧ Is (AV.lit (0 : Nat) (1 : Nat) fun (x x_2 : Nat) => AV.any) nilA ∧ True) ∧ (s.extract a (x.2 + Pl.wl (List.drop x.2 (Pl.bl' x.1))) = Pl.wname (List.drop a (Pl.bl' s)) ∧ ((0 : Nat) = (0 : Nat) ∧ (0 : Nat) = (0 : Nat) ∧ x_1.2.length = (0 : Nat)) ∧ True) ∧ x_1.2.length = (0 : Nat) ∧ True) ∧ ∀ (x : Nat × List Pl.Tm),
 x.1 ≤ s.size ∧ x.2.length ≤ (3 : Nat) ∧ (0 : Nat) < d ∧ Pl.kidsR (Pl.rdT true (d - (1 : Nat))) true (Pl.wname (List.drop a (Pl.bl' s))) ((3 : Nat) - x.2.length) x.2 (List.drop x.1 (Pl.bl' s)) =
 Pl.rdT true d (List.drop a (Pl.bl' s)) →
 condP (decide ((↑x.2.length : Int) ≤ (2 : Int)))
 (condP (decide ((↑x.1 : Int) < (↑s.size : Int)))
 (((0 : Int) ≤ (↑x.1 : Int) ∧ (↑x.1 : Int) < (↑s.size : Int)) ∧ condP ((↑(s.data.getD x.1 (0 : UInt8)).toNat : Int) != (41 : Int))
 (∃ x_1 : ByteArray × Nat × Nat,
 (s = x_1.1 ∧ IntKind.i64.wrap ((↑x.1 : Int) + (1 : Int)) = (↑x_1.2.1 : Int) ∧ IntKind.i64.wrap ((↑d : Int) - (1 : Int)) = (↑x_1.2.2 : Int) ∧ True) ∧ ((x_1.1.size.le (1048576 : Nat) ∧ x_1.2.1 ≤ x_1.1.size ∧ x_1.2.2 ≤ (4 : Nat)) ∧ x_1.2.2 < n) ∧ condP (decide (Pl.posn x_1.1 (Pl.rdT true x_1.2.2 (List.drop x_1.2.1 (Pl.bl' x_1.1))).2 < (0 : Int)))
 ((0 : Nat) + x.2.length ≤ x.2.length ∧ (Pl.wname (List.drop a (Pl.bl' s)) = (Pl.rdT true d (List.drop a (Pl.bl' s))).1.1 ∧ Is (terms x.2) (terms (Pl.rdT true d (List.drop a (Pl.bl' s))).1.2) ∧ True) ∧ (-1 : Int) = Pl.posn s (Pl.rdT true d (List.drop a (Pl.bl' s))).2 ∧ True)
 (condP (decide (Pl.posn x_1.1 (Pl.rdT true x_1.2.2 (List.drop x_1.2.1 (Pl.bl' x_1.1))).2 ≥ (↑s.size : Int)))
 ((0 : Nat) + x.2.length ≤ x.2.length ∧ (Pl.wname (List.drop a (Pl.bl' s)) = (Pl.rdT true d (List.drop a (Pl.bl' s))).1.1 ∧ Is (terms x.2) (terms (Pl.rdT true d (List.drop a (Pl.bl' s))).1.2) ∧ True) ∧ (-1 : Int) = Pl.posn s (Pl.rdT true d (List.drop a (Pl.bl' s))).2 ∧ True)
 (((0 : Int) ≤ Pl.posn x_1.1 (Pl.rdT true x_1.2.2 (List.drop x_1.2.1 (Pl.bl' x_1.1))).2 ∧ Pl.posn x_1.1 (Pl.rdT true x_1.2.2 (List.drop x_1.2.1 (Pl.bl' x_1.1))).2 < (↑s.size : Int)) ∧ condP
 ((↑(s.data.getD (Pl.posn x_1.1 (Pl.rdT true x_1.2.2 (List.drop x_1.2.1 (Pl.bl' x_1.1))).2).toNat (0 : UInt8)).toNat : Int) !=
 (44 : Int))
 (((0 : Int) ≤ Pl.posn x_1.1 (Pl.rdT true x_1.2.2 (List.drop x_1.2.1 (Pl.bl' x_1.1))).2 ∧ Pl.posn x_1.1 (Pl.rdT true x_1.2.2 (List.drop x_1.2.1 (Pl.bl' x_1.1))).2 < (↑s.size : Int)) ∧ condP
 ((↑(s.data.getD (Pl.posn x_1.1 (Pl.rdT true x_1.2.2 (List.drop x_1.2.1 (Pl.bl' x_1.1))).2).toNat (0 : UInt8)).toNat : Int) !=
 (41 : Int))
 ((0 : Nat) + x.2.length ≤ x.2.length ∧ (Pl.wname (List.drop a (Pl.bl' s)) = (Pl.rdT true d (List.drop a (Pl.bl' s))).1.1 ∧ Is (terms x.2) (terms (Pl.rdT true d (List.drop a (Pl.bl' s))).1.2) ∧ True) ∧ (-1 : Int) = Pl.posn s (Pl.rdT true d (List.drop a (Pl.bl' s))).2 ∧ True)
 ((0 : Nat) + x.2.length ≤ x.2.length ∧ (x.2.length + (1 : Nat)) * (40 : Nat) ≤ (70368744177664 : Nat) ∧ Exists fun (x' : Nat × List Pl.Tm) =>
 (x'.1 ≤ s.size ∧ x'.2.length ≤ (3 : Nat) ∧ (0 : Nat) < d ∧ Pl.kidsR (Pl.rdT true (d - (1 : Nat))) true (Pl.wname (List.drop a (Pl.bl' s))) ((3 : Nat) - x'.2.length) x'.2
 (List.drop x'.1 (Pl.bl' s)) =
 Pl.rdT true d (List.drop a (Pl.bl' s))) ∧ (3 : Nat) - x'.2.length < (3 : Nat) - x.2.length ∧ (s = s ∧ Pl.posn x_1.1 (Pl.rdT true x_1.2.2 (List.drop x_1.2.1 (Pl.bl' x_1.1))).2 = (↑x'.1 : Int) ∧ (↑d : Int) = (↑d : Int) ∧ (0 : Nat) = (0 : Nat) ∧ (0 : Nat) = (0 : Nat) ∧ True) ∧ (ByteArray.empty = ByteArray.empty ∧ Is (AV.lit (0 : Nat) (1 : Nat) fun (x x_2 : Nat) => AV.any) nilA ∧ True) ∧ (Pl.wname (List.drop a (Pl.bl' s)) = Pl.wname (List.drop a (Pl.bl' s)) ∧ ((0 : Nat) = (0 : Nat) ∧ x.2.length + (1 : Nat) = x'.2.length) ∧ True) ∧ IsO
 (AObj.arr (x.2.length + (1 : Nat)) (2 : Nat)
 (joinC x.2.length (cT x.2)
 (rowsCell
 [[st (Pl.rdT true x_1.2.2 (List.drop x_1.2.1 (Pl.bl' x_1.1))).1.1,
 terms (Pl.rdT true x_1.2.2 (List.drop x_1.2.1 (Pl.bl' x_1.1))).1.2]])))
 (arT x'.2) ∧ True))
 ((0 : Nat) + x.2.length ≤ x.2.length ∧ (x.2.length + (1 : Nat)) * (40 : Nat) ≤ (70368744177664 : Nat) ∧ Exists fun (x' : Nat × List Pl.Tm) =>
 (x'.1 ≤ s.size ∧ x'.2.length ≤ (3 : Nat) ∧ (0 : Nat) < d ∧ Pl.kidsR (Pl.rdT true (d - (1 : Nat))) true (Pl.wname (List.drop a (Pl.bl' s))) ((3 : Nat) - x'.2.length) x'.2
 (List.drop x'.1 (Pl.bl' s)) =
 Pl.rdT true d (List.drop a (Pl.bl' s))) ∧ (3 : Nat) - x'.2.length < (3 : Nat) - x.2.length ∧ (s = s ∧ Pl.posn x_1.1 (Pl.rdT true x_1.2.2 (List.drop x_1.2.1 (Pl.bl' x_1.1))).2 = (↑x'.1 : Int) ∧ (↑d : Int) = (↑d : Int) ∧ (0 : Nat) = (0 : Nat) ∧ (0 : Nat) = (0 : Nat) ∧ True) ∧ (ByteArray.empty = ByteArray.empty ∧ Is (AV.lit (0 : Nat) (1 : Nat) fun (x x_2 : Nat) => AV.any) nilA ∧ True) ∧ (Pl.wname (List.drop a (Pl.bl' s)) = Pl.wname (List.drop a (Pl.bl' s)) ∧ ((0 : Nat) = (0 : Nat) ∧ x.2.length + (1 : Nat) = x'.2.length) ∧ True) ∧ IsO
 (AObj.arr (x.2.length + (1 : Nat)) (2 : Nat)
 (joinC x.2.length (cT x.2)
 (rowsCell
 [[st (Pl.rdT true x_1.2.2 (List.drop x_1.2.1 (Pl.bl' x_1.1))).1.1,
 terms (Pl.rdT true x_1.2.2 (List.drop x_1.2.1 (Pl.bl' x_1.1))).1.2]])))
 (arT x'.2) ∧ True))))
 (condP (decide ((↑x.1 : Int) ≥ (↑s.size : Int)))
 ((0 : Nat) + x.2.length ≤ x.2.length ∧ (Pl.wname (List.drop a (Pl.bl' s)) = (Pl.rdT true d (List.drop a (Pl.bl' s))).1.1 ∧ Is (terms x.2) (terms (Pl.rdT true d (List.drop a (Pl.bl' s))).1.2) ∧ True) ∧ (-1 : Int) = Pl.posn s (Pl.rdT true d (List.drop a (Pl.bl' s))).2 ∧ True)
 (((0 : Int) ≤ (↑x.1 : Int) ∧ (↑x.1 : Int) < (↑s.size : Int)) ∧ condP ((↑(s.data.getD x.1 (0 : UInt8)).toNat : Int) != (41 : Int))
 ((0 : Nat) + x.2.length ≤ x.2.length ∧ (Pl.wname (List.drop a (Pl.bl' s)) = (Pl.rdT true d (List.drop a (Pl.bl' s))).1.1 ∧ Is (terms x.2) (terms (Pl.rdT true d (List.drop a (Pl.bl' s))).1.2) ∧ True) ∧ (-1 : Int) = Pl.posn s (Pl.rdT true d (List.drop a (Pl.bl' s))).2 ∧ True)
 ((0 : Nat) + x.2.length ≤ x.2.length ∧ (Pl.wname (List.drop a (Pl.bl' s)) = (Pl.rdT true d (List.drop a (Pl.bl' s))).1.1 ∧ Is (terms x.2) (terms (Pl.rdT true d (List.drop a (Pl.bl' s))).1.2) ∧ True) ∧ IntKind.i64.wrap ((↑x.1 : Int) + (1 : Int)) = Pl.posn s (Pl.rdT true d (List.drop a (Pl.bl' s))).2 ∧ True))))
 (condP (decide ((↑x.1 : Int) ≥ (↑s.size : Int)))
 ((0 : Nat) + x.2.length ≤ x.2.length ∧ (Pl.wname (List.drop a (Pl.bl' s)) = (Pl.rdT true d (List.drop a (Pl.bl' s))).1.1 ∧ Is (terms x.2) (terms (Pl.rdT true d (List.drop a (Pl.bl' s))).1.2) ∧ True) ∧ (-1 : Int) = Pl.posn s (Pl.rdT true d (List.drop a (Pl.bl' s))).2 ∧ True)
 (((0 : Int) ≤ (↑x.1 : Int) ∧ (↑x.1 : Int) < (↑s.size : Int)) ∧ condP ((↑(s.data.getD x.1 (0 : UInt8)).toNat : Int) != (41 : Int))
 ((0 : Nat) + x.2.length ≤ x.2.length ∧ (Pl.wname (List.drop a (Pl.bl' s)) = (Pl.rdT true d (List.drop a (Pl.bl' s))).1.1 ∧ Is (terms x.2) (terms (Pl.rdT true d (List.drop a (Pl.bl' s))).1.2) ∧ True) ∧ (-1 : Int) = Pl.posn s (Pl.rdT true d (List.drop a (Pl.bl' s))).2 ∧ True)
 ((0 : Nat) + x.2.length ≤ x.2.length ∧ (Pl.wname (List.drop a (Pl.bl' s)) = (Pl.rdT true d (List.drop a (Pl.bl' s))).1.1 ∧ Is (terms x.2) (terms (Pl.rdT true d (List.drop a (Pl.bl' s))).1.2) ∧ True) ∧ IntKind.i64.wrap ((↑x.1 : Int) + (1 : Int)) = Pl.posn s (Pl.rdT true d (List.drop a (Pl.bl' s))).2 ∧ True))))
 (condP (decide ((↑x.1 : Int) ≥ (↑s.size : Int)))
 ((0 : Nat) + x.2.length ≤ x.2.length ∧ (Pl.wname (List.drop a (Pl.bl' s)) = (Pl.rdT true d (List.drop a (Pl.bl' s))).1.1 ∧ Is (terms x.2) (terms (Pl.rdT true d (List.drop a (Pl.bl' s))).1.2) ∧ True) ∧ (-1 : Int) = Pl.posn s (Pl.rdT true d (List.drop a (Pl.bl' s))).2 ∧ True)
 (((0 : Int) ≤ (↑x.1 : Int) ∧ (↑x.1 : Int) < (↑s.size : Int)) ∧ condP ((↑(s.data.getD x.1 (0 : UInt8)).toNat : Int) != (41 : Int))
 ((0 : Nat) + x.2.length ≤ x.2.length ∧ (Pl.wname (List.drop a (Pl.bl' s)) = (Pl.rdT true d (List.drop a (Pl.bl' s))).1.1 ∧ Is (terms x.2) (terms (Pl.rdT true d (List.drop a (Pl.bl' s))).1.2) ∧ True) ∧ (-1 : Int) = Pl.posn s (Pl.rdT true d (List.drop a (Pl.bl' s))).2 ∧ True)
 ((0 : Nat) + x.2.length ≤ x.2.length ∧ (Pl.wname (List.drop a (Pl.bl' s)) = (Pl.rdT true d (List.drop a (Pl.bl' s))).1.1 ∧ Is (terms x.2) (terms (Pl.rdT true d (List.drop a (Pl.bl' s))).1.2) ∧ True) ∧ IntKind.i64.wrap ((↑x.1 : Int) + (1 : Int)) = Pl.posn s (Pl.rdT true d (List.drop a (Pl.bl' s))).2 ∧ True)))))))) = Goal Tryz.prog [K_l4Word, (K_l4Read n)] (A_l4Read s a d) (K_l4Read (n + 1)).1 (K_l4Read (n + 1)).2 ((s, a, d)) := by kernel_rfl

theorem vc_readTerm (n : Nat) (s : ByteArray) (d : Nat) : ((∃ x : Nat,
 (x ≤ s.size ∧ x + Pl.wl (List.drop x (Pl.bl' s)) = Pl.wl (Pl.bl' s)) ∧ (s = s ∧ (5 : Int) - (↑d : Int) = (5 : Int) - (↑d : Int) ∧ (0 : Nat) = (0 : Nat) ∧ (0 : Int) = (↑x : Int) ∧ True) ∧ (ByteArray.mk #[] = ByteArray.empty ∧ Is (AV.lit (0 : Nat) (1 : Nat) fun (x x_1 : Nat) => AV.any) nilA ∧ True) ∧ True) ∧ ∀ (x : Nat),
 x ≤ s.size ∧ x + Pl.wl (List.drop x (Pl.bl' s)) = Pl.wl (Pl.bl' s) →
 condP (decide ((↑x : Int) < (↑s.size : Int)))
 (((0 : Int) ≤ (↑x : Int) ∧ (↑x : Int) < (↑s.size : Int)) ∧ condP (decide ((↑(s.data.getD x (0 : UInt8)).toNat : Int) ≥ (97 : Int)))
 (((0 : Int) ≤ (↑x : Int) ∧ (↑x : Int) < (↑s.size : Int)) ∧ condP (decide ((↑(s.data.getD x (0 : UInt8)).toNat : Int) ≤ (122 : Int)))
 (Exists fun (x' : Nat) =>
 (x' ≤ s.size ∧ x' + Pl.wl (List.drop x' (Pl.bl' s)) = Pl.wl (Pl.bl' s)) ∧ s.size - x' < s.size - x ∧ (s = s ∧ (5 : Int) - (↑d : Int) = (5 : Int) - (↑d : Int) ∧ (0 : Nat) = (0 : Nat) ∧ IntKind.i64.wrap ((↑x : Int) + (1 : Int)) = (↑x' : Int) ∧ True) ∧ (ByteArray.empty = ByteArray.empty ∧ Is (AV.lit (0 : Nat) (1 : Nat) fun (x x_1 : Nat) => AV.any) nilA ∧ True) ∧ True)
 (((0 : Int) ≤ (↑x : Int) ∧ (↑x : Int) ≤ (↑s.size : Int)) ∧ ((0 : Int) ≤ (↑x : Int) ∧ (↑x : Int) ≤ (↑s.size : Int)) ∧ condP (decide ((5 : Int) - (↑d : Int) > (4 : Int)))
 ((ByteArray.mk #[] = (Pl.rdT false d (Pl.bl' s)).1.1 ∧ Is (AV.lit (0 : Nat) (1 : Nat) fun (x x_1 : Nat) => AV.any) (terms (Pl.rdT false d (Pl.bl' s)).1.2) ∧ True) ∧ ByteArray.mk #[] = Pl.restB (Pl.rdT false d (Pl.bl' s)).2 ∧ false = (Pl.rdT false d (Pl.bl' s)).2.isSome ∧ True)
 (∃ x_1 : ByteArray,
 (s.extract (0 : Nat) x = x_1 ∧ True) ∧ x_1.size ≤ (1048576 : Nat) ∧ condP (!Pl.nameOk x_1)
 ((ByteArray.mk #[] = (Pl.rdT false d (Pl.bl' s)).1.1 ∧ Is (AV.lit (0 : Nat) (1 : Nat) fun (x x_2 : Nat) => AV.any) (terms (Pl.rdT false d (Pl.bl' s)).1.2) ∧ True) ∧ ByteArray.mk #[] = Pl.restB (Pl.rdT false d (Pl.bl' s)).2 ∧ false = (Pl.rdT false d (Pl.bl' s)).2.isSome ∧ True)
 (∃ x_2 : ByteArray × ByteArray,
 (s.extract x s.size = x_2.1 ∧ ByteArray.mk #[(40 : UInt8)] = x_2.2 ∧ True) ∧ x_2.1.size.le (4294967280 : Nat) ∧ condP (!Lib.hasPrefix (Pl.bl' x_2.1) (Pl.bl' x_2.2))
 ((s.extract (0 : Nat) x = (Pl.rdT false d (Pl.bl' s)).1.1 ∧ Is (AV.lit (0 : Nat) (1 : Nat) fun (x x_3 : Nat) => AV.any) (terms (Pl.rdT false d (Pl.bl' s)).1.2) ∧ True) ∧ s.extract x s.size = Pl.restB (Pl.rdT false d (Pl.bl' s)).2 ∧ true = (Pl.rdT false d (Pl.bl' s)).2.isSome ∧ True)
 ((∃ x_3 : List UInt8 × List Pl.Tm,
 (x_3.1.length ≤ s.size ∧ x_3.2.length ≤ (2 : Nat) ∧ (0 : Nat) < d ∧ Pl.kidsR (Pl.rdT false (d - (1 : Nat))) false (Pl.wname (Pl.bl' s)) ((2 : Nat) - x_3.2.length) x_3.2 x_3.1 =
 Pl.rdT false d (Pl.bl' s)) ∧ ((5 : Int) - (↑d : Int) = (5 : Int) - (↑d : Int) ∧ (0 : Nat) = (0 : Nat) ∧ (0 : Nat) = (0 : Nat) ∧ s.extract x s.size = Pl.mkB x_3.1 ∧ True) ∧ (ByteArray.empty = ByteArray.empty ∧ Is (AV.lit (0 : Nat) (1 : Nat) fun (x x_4 : Nat) => AV.any) nilA ∧ True) ∧ (s.extract (0 : Nat) x = Pl.wname (Pl.bl' s) ∧ ((0 : Nat) = (0 : Nat) ∧ (0 : Nat) = (0 : Nat) ∧ x_3.2.length = (0 : Nat)) ∧ True) ∧ x_3.2.length = (0 : Nat) ∧ True) ∧ ∀ (x : List UInt8 × List Pl.Tm),
 x.1.length ≤ s.size ∧ x.2.length ≤ (2 : Nat) ∧ (0 : Nat) < d ∧ Pl.kidsR (Pl.rdT false (d - (1 : Nat))) false (Pl.wname (Pl.bl' s)) ((2 : Nat) - x.2.length) x.2 x.1 =
 Pl.rdT false d (Pl.bl' s) →
 condP (!(Pl.mkB x.1).toList == (ByteArray.mk #[]).toList)
 (((0 : Int) ≤ (0 : Int) ∧ (0 : Int) < (↑(Pl.mkB x.1).size : Int)) ∧ condP ((↑((Pl.mkB x.1).data.getD (0 : Nat) (0 : UInt8)).toNat : Int) != (41 : Int))
 (condP (decide ((↑x.2.length : Int) < (2 : Int)))
 (((0 : Int) ≤ (1 : Int) ∧ (1 : Int) ≤ (↑(Pl.mkB x.1).size : Int)) ∧ ∃ x_3 : ByteArray × Nat,
 ((Pl.mkB x.1).extract (1 : Nat) (Pl.mkB x.1).size = x_3.1 ∧ IntKind.i64.wrap ((5 : Int) - (↑d : Int) + (1 : Int)) = (5 : Int) - (↑x_3.2 : Int) ∧ True) ∧ ((x_3.1.size.le (1048576 : Nat) ∧ x_3.2 ≤ (4 : Nat)) ∧ x_3.2 < n) ∧ condP (!(Pl.rdT false x_3.2 (Pl.bl' x_3.1)).2.isSome)
 ((ByteArray.mk #[] = (Pl.rdT false d (Pl.bl' s)).1.1 ∧ Is (AV.lit (0 : Nat) (1 : Nat) fun (x x_4 : Nat) => AV.any) (terms (Pl.rdT false d (Pl.bl' s)).1.2) ∧ True) ∧ ByteArray.mk #[] = Pl.restB (Pl.rdT false d (Pl.bl' s)).2 ∧ false = (Pl.rdT false d (Pl.bl' s)).2.isSome ∧ True)
 ((0 : Nat) + x.2.length ≤ x.2.length ∧ (x.2.length + (1 : Nat)) * (40 : Nat) ≤ (70368744177664 : Nat) ∧ Exists fun (x' : List UInt8 × List Pl.Tm) =>
 (x'.1.length ≤ s.size ∧ x'.2.length ≤ (2 : Nat) ∧ (0 : Nat) < d ∧ Pl.kidsR (Pl.rdT false (d - (1 : Nat))) false (Pl.wname (Pl.bl' s)) ((2 : Nat) - x'.2.length) x'.2 x'.1 =
 Pl.rdT false d (Pl.bl' s)) ∧ (2 : Nat) - x'.2.length < (2 : Nat) - x.2.length ∧ ((5 : Int) - (↑d : Int) = (5 : Int) - (↑d : Int) ∧ (0 : Nat) = (0 : Nat) ∧ (0 : Nat) = (0 : Nat) ∧ Pl.restB (Pl.rdT false x_3.2 (Pl.bl' x_3.1)).2 = Pl.mkB x'.1 ∧ True) ∧ (ByteArray.empty = ByteArray.empty ∧ Is (AV.lit (0 : Nat) (1 : Nat) fun (x x_4 : Nat) => AV.any) nilA ∧ True) ∧ (Pl.wname (Pl.bl' s) = Pl.wname (Pl.bl' s) ∧ ((0 : Nat) = (0 : Nat) ∧ x.2.length + (1 : Nat) = x'.2.length) ∧ True) ∧ IsO
 (AObj.arr (x.2.length + (1 : Nat)) (2 : Nat)
 (joinC x.2.length (cT x.2)
 (rowsCell
 [[st (Pl.rdT false x_3.2 (Pl.bl' x_3.1)).1.1,
 terms (Pl.rdT false x_3.2 (Pl.bl' x_3.1)).1.2]])))
 (arT x'.2) ∧ True))
 (∃ x_3 : ByteArray × ByteArray,
 (Pl.mkB x.1 = x_3.1 ∧ ByteArray.mk #[(41 : UInt8)] = x_3.2 ∧ True) ∧ x_3.1.size.le (4294967280 : Nat) ∧ condP (!Lib.hasPrefix (Pl.bl' x_3.1) (Pl.bl' x_3.2))
 ((ByteArray.mk #[] = (Pl.rdT false d (Pl.bl' s)).1.1 ∧ Is (AV.lit (0 : Nat) (1 : Nat) fun (x x_4 : Nat) => AV.any) (terms (Pl.rdT false d (Pl.bl' s)).1.2) ∧ True) ∧ ByteArray.mk #[] = Pl.restB (Pl.rdT false d (Pl.bl' s)).2 ∧ false = (Pl.rdT false d (Pl.bl' s)).2.isSome ∧ True)
 (((0 : Int) ≤ (1 : Int) ∧ (1 : Int) ≤ (↑(Pl.mkB x.1).size : Int)) ∧ (0 : Nat) + x.2.length ≤ x.2.length ∧ (Pl.wname (Pl.bl' s) = (Pl.rdT false d (Pl.bl' s)).1.1 ∧ Is (terms x.2) (terms (Pl.rdT false d (Pl.bl' s)).1.2) ∧ True) ∧ (Pl.mkB x.1).extract (1 : Nat) (Pl.mkB x.1).size = Pl.restB (Pl.rdT false d (Pl.bl' s)).2 ∧ true = (Pl.rdT false d (Pl.bl' s)).2.isSome ∧ True)))
 (∃ x_3 : ByteArray × ByteArray,
 (Pl.mkB x.1 = x_3.1 ∧ ByteArray.mk #[(41 : UInt8)] = x_3.2 ∧ True) ∧ x_3.1.size.le (4294967280 : Nat) ∧ condP (!Lib.hasPrefix (Pl.bl' x_3.1) (Pl.bl' x_3.2))
 ((ByteArray.mk #[] = (Pl.rdT false d (Pl.bl' s)).1.1 ∧ Is (AV.lit (0 : Nat) (1 : Nat) fun (x x_4 : Nat) => AV.any) (terms (Pl.rdT false d (Pl.bl' s)).1.2) ∧ True) ∧ ByteArray.mk #[] = Pl.restB (Pl.rdT false d (Pl.bl' s)).2 ∧ false = (Pl.rdT false d (Pl.bl' s)).2.isSome ∧ True)
 (((0 : Int) ≤ (1 : Int) ∧ (1 : Int) ≤ (↑(Pl.mkB x.1).size : Int)) ∧ (0 : Nat) + x.2.length ≤ x.2.length ∧ (Pl.wname (Pl.bl' s) = (Pl.rdT false d (Pl.bl' s)).1.1 ∧ Is (terms x.2) (terms (Pl.rdT false d (Pl.bl' s)).1.2) ∧ True) ∧ (Pl.mkB x.1).extract (1 : Nat) (Pl.mkB x.1).size = Pl.restB (Pl.rdT false d (Pl.bl' s)).2 ∧ true = (Pl.rdT false d (Pl.bl' s)).2.isSome ∧ True)))
 (∃ x_3 : ByteArray × ByteArray,
 (Pl.mkB x.1 = x_3.1 ∧ ByteArray.mk #[(41 : UInt8)] = x_3.2 ∧ True) ∧ x_3.1.size.le (4294967280 : Nat) ∧ condP (!Lib.hasPrefix (Pl.bl' x_3.1) (Pl.bl' x_3.2))
 ((ByteArray.mk #[] = (Pl.rdT false d (Pl.bl' s)).1.1 ∧ Is (AV.lit (0 : Nat) (1 : Nat) fun (x x_4 : Nat) => AV.any) (terms (Pl.rdT false d (Pl.bl' s)).1.2) ∧ True) ∧ ByteArray.mk #[] = Pl.restB (Pl.rdT false d (Pl.bl' s)).2 ∧ false = (Pl.rdT false d (Pl.bl' s)).2.isSome ∧ True)
 (((0 : Int) ≤ (1 : Int) ∧ (1 : Int) ≤ (↑(Pl.mkB x.1).size : Int)) ∧ (0 : Nat) + x.2.length ≤ x.2.length ∧ (Pl.wname (Pl.bl' s) = (Pl.rdT false d (Pl.bl' s)).1.1 ∧ Is (terms x.2) (terms (Pl.rdT false d (Pl.bl' s)).1.2) ∧ True) ∧ (Pl.mkB x.1).extract (1 : Nat) (Pl.mkB x.1).size = Pl.restB (Pl.rdT false d (Pl.bl' s)).2 ∧ true = (Pl.rdT false d (Pl.bl' s)).2.isSome ∧ True)))))))
 (((0 : Int) ≤ (↑x : Int) ∧ (↑x : Int) ≤ (↑s.size : Int)) ∧ ((0 : Int) ≤ (↑x : Int) ∧ (↑x : Int) ≤ (↑s.size : Int)) ∧ condP (decide ((5 : Int) - (↑d : Int) > (4 : Int)))
 ((ByteArray.mk #[] = (Pl.rdT false d (Pl.bl' s)).1.1 ∧ Is (AV.lit (0 : Nat) (1 : Nat) fun (x x_1 : Nat) => AV.any) (terms (Pl.rdT false d (Pl.bl' s)).1.2) ∧ True) ∧ ByteArray.mk #[] = Pl.restB (Pl.rdT false d (Pl.bl' s)).2 ∧ false = (Pl.rdT false d (Pl.bl' s)).2.isSome ∧ True)
 (∃ x_1 : ByteArray,
 (s.extract (0 : Nat) x = x_1 ∧ True) ∧ x_1.size ≤ (1048576 : Nat) ∧ condP (!Pl.nameOk x_1)
 ((ByteArray.mk #[] = (Pl.rdT false d (Pl.bl' s)).1.1 ∧ Is (AV.lit (0 : Nat) (1 : Nat) fun (x x_2 : Nat) => AV.any) (terms (Pl.rdT false d (Pl.bl' s)).1.2) ∧ True) ∧ ByteArray.mk #[] = Pl.restB (Pl.rdT false d (Pl.bl' s)).2 ∧ false = (Pl.rdT false d (Pl.bl' s)).2.isSome ∧ True)
 (∃ x_2 : ByteArray × ByteArray,
 (s.extract x s.size = x_2.1 ∧ ByteArray.mk #[(40 : UInt8)] = x_2.2 ∧ True) ∧ x_2.1.size.le (4294967280 : Nat) ∧ condP (!Lib.hasPrefix (Pl.bl' x_2.1) (Pl.bl' x_2.2))
 ((s.extract (0 : Nat) x = (Pl.rdT false d (Pl.bl' s)).1.1 ∧ Is (AV.lit (0 : Nat) (1 : Nat) fun (x x_3 : Nat) => AV.any) (terms (Pl.rdT false d (Pl.bl' s)).1.2) ∧ True) ∧ s.extract x s.size = Pl.restB (Pl.rdT false d (Pl.bl' s)).2 ∧ true = (Pl.rdT false d (Pl.bl' s)).2.isSome ∧ True)
 ((∃ x_3 : List UInt8 × List Pl.Tm,
 (x_3.1.length ≤ s.size ∧ x_3.2.length ≤ (2 : Nat) ∧ (0 : Nat) < d ∧ Pl.kidsR (Pl.rdT false (d - (1 : Nat))) false (Pl.wname (Pl.bl' s)) ((2 : Nat) - x_3.2.length) x_3.2 x_3.1 =
 Pl.rdT false d (Pl.bl' s)) ∧ ((5 : Int) - (↑d : Int) = (5 : Int) - (↑d : Int) ∧ (0 : Nat) = (0 : Nat) ∧ (0 : Nat) = (0 : Nat) ∧ s.extract x s.size = Pl.mkB x_3.1 ∧ True) ∧ (ByteArray.empty = ByteArray.empty ∧ Is (AV.lit (0 : Nat) (1 : Nat) fun (x x_4 : Nat) => AV.any) nilA ∧ True) ∧ (s.extract (0 : Nat) x = Pl.wname (Pl.bl' s) ∧ ((0 : Nat) = (0 : Nat) ∧ (0 : Nat) = (0 : Nat) ∧ x_3.2.length = (0 : Nat)) ∧ True) ∧ x_3.2.length = (0 : Nat) ∧ True) ∧ ∀ (x : List UInt8 × List Pl.Tm),
 x.1.length ≤ s.size ∧ x.2.length ≤ (2 : Nat) ∧ (0 : Nat) < d ∧ Pl.kidsR (Pl.rdT false (d - (1 : Nat))) false (Pl.wname (Pl.bl' s)) ((2 : Nat) - x.2.length) x.2 x.1 = Pl.rdT false d (Pl.bl' s) →
 condP (!(Pl.mkB x.1).toList == (ByteArray.mk #[]).toList)
 (((0 : Int) ≤ (0 : Int) ∧ (0 : Int) < (↑(Pl.mkB x.1).size : Int)) ∧ condP ((↑((Pl.mkB x.1).data.getD (0 : Nat) (0 : UInt8)).toNat : Int) != (41 : Int))
 (condP (decide ((↑x.2.length : Int) < (2 : Int)))
 (((0 : Int) ≤ (1 : Int) ∧ (1 : Int) ≤ (↑(Pl.mkB x.1).size : Int)) ∧ ∃ x_3 : ByteArray × Nat,
 ((Pl.mkB x.1).extract (1 : Nat) (Pl.mkB x.1).size = x_3.1 ∧ IntKind.i64.wrap ((5 : Int) - (↑d : Int) + (1 : Int)) = (5 : Int) - (↑x_3.2 : Int) ∧ True) ∧ ((x_3.1.size.le (1048576 : Nat) ∧ x_3.2 ≤ (4 : Nat)) ∧ x_3.2 < n) ∧ condP (!(Pl.rdT false x_3.2 (Pl.bl' x_3.1)).2.isSome)
 ((ByteArray.mk #[] = (Pl.rdT false d (Pl.bl' s)).1.1 ∧ Is (AV.lit (0 : Nat) (1 : Nat) fun (x x_4 : Nat) => AV.any) (terms (Pl.rdT false d (Pl.bl' s)).1.2) ∧ True) ∧ ByteArray.mk #[] = Pl.restB (Pl.rdT false d (Pl.bl' s)).2 ∧ false = (Pl.rdT false d (Pl.bl' s)).2.isSome ∧ True)
 ((0 : Nat) + x.2.length ≤ x.2.length ∧ (x.2.length + (1 : Nat)) * (40 : Nat) ≤ (70368744177664 : Nat) ∧ Exists fun (x' : List UInt8 × List Pl.Tm) =>
 (x'.1.length ≤ s.size ∧ x'.2.length ≤ (2 : Nat) ∧ (0 : Nat) < d ∧ Pl.kidsR (Pl.rdT false (d - (1 : Nat))) false (Pl.wname (Pl.bl' s)) ((2 : Nat) - x'.2.length) x'.2 x'.1 =
 Pl.rdT false d (Pl.bl' s)) ∧ (2 : Nat) - x'.2.length < (2 : Nat) - x.2.length ∧ ((5 : Int) - (↑d : Int) = (5 : Int) - (↑d : Int) ∧ (0 : Nat) = (0 : Nat) ∧ (0 : Nat) = (0 : Nat) ∧ Pl.restB (Pl.rdT false x_3.2 (Pl.bl' x_3.1)).2 = Pl.mkB x'.1 ∧ True) ∧ (ByteArray.empty = ByteArray.empty ∧ Is (AV.lit (0 : Nat) (1 : Nat) fun (x x_4 : Nat) => AV.any) nilA ∧ True) ∧ (Pl.wname (Pl.bl' s) = Pl.wname (Pl.bl' s) ∧ ((0 : Nat) = (0 : Nat) ∧ x.2.length + (1 : Nat) = x'.2.length) ∧ True) ∧ IsO
 (AObj.arr (x.2.length + (1 : Nat)) (2 : Nat)
 (joinC x.2.length (cT x.2)
 (rowsCell
 [[st (Pl.rdT false x_3.2 (Pl.bl' x_3.1)).1.1,
 terms (Pl.rdT false x_3.2 (Pl.bl' x_3.1)).1.2]])))
 (arT x'.2) ∧ True))
 (∃ x_3 : ByteArray × ByteArray,
 (Pl.mkB x.1 = x_3.1 ∧ ByteArray.mk #[(41 : UInt8)] = x_3.2 ∧ True) ∧ x_3.1.size.le (4294967280 : Nat) ∧ condP (!Lib.hasPrefix (Pl.bl' x_3.1) (Pl.bl' x_3.2))
 ((ByteArray.mk #[] = (Pl.rdT false d (Pl.bl' s)).1.1 ∧ Is (AV.lit (0 : Nat) (1 : Nat) fun (x x_4 : Nat) => AV.any) (terms (Pl.rdT false d (Pl.bl' s)).1.2) ∧ True) ∧ ByteArray.mk #[] = Pl.restB (Pl.rdT false d (Pl.bl' s)).2 ∧ false = (Pl.rdT false d (Pl.bl' s)).2.isSome ∧ True)
 (((0 : Int) ≤ (1 : Int) ∧ (1 : Int) ≤ (↑(Pl.mkB x.1).size : Int)) ∧ (0 : Nat) + x.2.length ≤ x.2.length ∧ (Pl.wname (Pl.bl' s) = (Pl.rdT false d (Pl.bl' s)).1.1 ∧ Is (terms x.2) (terms (Pl.rdT false d (Pl.bl' s)).1.2) ∧ True) ∧ (Pl.mkB x.1).extract (1 : Nat) (Pl.mkB x.1).size = Pl.restB (Pl.rdT false d (Pl.bl' s)).2 ∧ true = (Pl.rdT false d (Pl.bl' s)).2.isSome ∧ True)))
 (∃ x_3 : ByteArray × ByteArray,
 (Pl.mkB x.1 = x_3.1 ∧ ByteArray.mk #[(41 : UInt8)] = x_3.2 ∧ True) ∧ x_3.1.size.le (4294967280 : Nat) ∧ condP (!Lib.hasPrefix (Pl.bl' x_3.1) (Pl.bl' x_3.2))
 ((ByteArray.mk #[] = (Pl.rdT false d (Pl.bl' s)).1.1 ∧ Is (AV.lit (0 : Nat) (1 : Nat) fun (x x_4 : Nat) => AV.any) (terms (Pl.rdT false d (Pl.bl' s)).1.2) ∧ True) ∧ ByteArray.mk #[] = Pl.restB (Pl.rdT false d (Pl.bl' s)).2 ∧ false = (Pl.rdT false d (Pl.bl' s)).2.isSome ∧ True)
 (((0 : Int) ≤ (1 : Int) ∧ (1 : Int) ≤ (↑(Pl.mkB x.1).size : Int)) ∧ (0 : Nat) + x.2.length ≤ x.2.length ∧ (Pl.wname (Pl.bl' s) = (Pl.rdT false d (Pl.bl' s)).1.1 ∧ Is (terms x.2) (terms (Pl.rdT false d (Pl.bl' s)).1.2) ∧ True) ∧ (Pl.mkB x.1).extract (1 : Nat) (Pl.mkB x.1).size = Pl.restB (Pl.rdT false d (Pl.bl' s)).2 ∧ true = (Pl.rdT false d (Pl.bl' s)).2.isSome ∧ True)))
 (∃ x_3 : ByteArray × ByteArray,
 (Pl.mkB x.1 = x_3.1 ∧ ByteArray.mk #[(41 : UInt8)] = x_3.2 ∧ True) ∧ x_3.1.size.le (4294967280 : Nat) ∧ condP (!Lib.hasPrefix (Pl.bl' x_3.1) (Pl.bl' x_3.2))
 ((ByteArray.mk #[] = (Pl.rdT false d (Pl.bl' s)).1.1 ∧ Is (AV.lit (0 : Nat) (1 : Nat) fun (x x_4 : Nat) => AV.any) (terms (Pl.rdT false d (Pl.bl' s)).1.2) ∧ True) ∧ ByteArray.mk #[] = Pl.restB (Pl.rdT false d (Pl.bl' s)).2 ∧ false = (Pl.rdT false d (Pl.bl' s)).2.isSome ∧ True)
 (((0 : Int) ≤ (1 : Int) ∧ (1 : Int) ≤ (↑(Pl.mkB x.1).size : Int)) ∧ (0 : Nat) + x.2.length ≤ x.2.length ∧ (Pl.wname (Pl.bl' s) = (Pl.rdT false d (Pl.bl' s)).1.1 ∧ Is (terms x.2) (terms (Pl.rdT false d (Pl.bl' s)).1.2) ∧ True) ∧ (Pl.mkB x.1).extract (1 : Nat) (Pl.mkB x.1).size = Pl.restB (Pl.rdT false d (Pl.bl' s)).2 ∧ true = (Pl.rdT false d (Pl.bl' s)).2.isSome ∧ True)))))))
 (((0 : Int) ≤ (↑x : Int) ∧ (↑x : Int) ≤ (↑s.size : Int)) ∧ ((0 : Int) ≤ (↑x : Int) ∧ (↑x : Int) ≤ (↑s.size : Int)) ∧ condP (decide ((5 : Int) - (↑d : Int) > (4 : Int)))
 ((ByteArray.mk #[] = (Pl.rdT false d (Pl.bl' s)).1.1 ∧ Is (AV.lit (0 : Nat) (1 : Nat) fun (x x_1 : Nat) => AV.any) (terms (Pl.rdT false d (Pl.bl' s)).1.2) ∧ True) ∧ ByteArray.mk #[] = Pl.restB (Pl.rdT false d (Pl.bl' s)).2 ∧ false = (Pl.rdT false d (Pl.bl' s)).2.isSome ∧ True)
 (∃ x_1 : ByteArray,
 (s.extract (0 : Nat) x = x_1 ∧ True) ∧ x_1.size ≤ (1048576 : Nat) ∧ condP (!Pl.nameOk x_1)
 ((ByteArray.mk #[] = (Pl.rdT false d (Pl.bl' s)).1.1 ∧ Is (AV.lit (0 : Nat) (1 : Nat) fun (x x_2 : Nat) => AV.any) (terms (Pl.rdT false d (Pl.bl' s)).1.2) ∧ True) ∧ ByteArray.mk #[] = Pl.restB (Pl.rdT false d (Pl.bl' s)).2 ∧ false = (Pl.rdT false d (Pl.bl' s)).2.isSome ∧ True)
 (∃ x_2 : ByteArray × ByteArray,
 (s.extract x s.size = x_2.1 ∧ ByteArray.mk #[(40 : UInt8)] = x_2.2 ∧ True) ∧ x_2.1.size.le (4294967280 : Nat) ∧ condP (!Lib.hasPrefix (Pl.bl' x_2.1) (Pl.bl' x_2.2))
 ((s.extract (0 : Nat) x = (Pl.rdT false d (Pl.bl' s)).1.1 ∧ Is (AV.lit (0 : Nat) (1 : Nat) fun (x x_3 : Nat) => AV.any) (terms (Pl.rdT false d (Pl.bl' s)).1.2) ∧ True) ∧ s.extract x s.size = Pl.restB (Pl.rdT false d (Pl.bl' s)).2 ∧ true = (Pl.rdT false d (Pl.bl' s)).2.isSome ∧ True)
 ((∃ x_3 : List UInt8 × List Pl.Tm,
 (x_3.1.length ≤ s.size ∧ x_3.2.length ≤ (2 : Nat) ∧ (0 : Nat) < d ∧ Pl.kidsR (Pl.rdT false (d - (1 : Nat))) false (Pl.wname (Pl.bl' s)) ((2 : Nat) - x_3.2.length) x_3.2 x_3.1 = Pl.rdT false d (Pl.bl' s)) ∧ ((5 : Int) - (↑d : Int) = (5 : Int) - (↑d : Int) ∧ (0 : Nat) = (0 : Nat) ∧ (0 : Nat) = (0 : Nat) ∧ s.extract x s.size = Pl.mkB x_3.1 ∧ True) ∧ (ByteArray.empty = ByteArray.empty ∧ Is (AV.lit (0 : Nat) (1 : Nat) fun (x x_4 : Nat) => AV.any) nilA ∧ True) ∧ (s.extract (0 : Nat) x = Pl.wname (Pl.bl' s) ∧ ((0 : Nat) = (0 : Nat) ∧ (0 : Nat) = (0 : Nat) ∧ x_3.2.length = (0 : Nat)) ∧ True) ∧ x_3.2.length = (0 : Nat) ∧ True) ∧ ∀ (x : List UInt8 × List Pl.Tm),
 x.1.length ≤ s.size ∧ x.2.length ≤ (2 : Nat) ∧ (0 : Nat) < d ∧ Pl.kidsR (Pl.rdT false (d - (1 : Nat))) false (Pl.wname (Pl.bl' s)) ((2 : Nat) - x.2.length) x.2 x.1 = Pl.rdT false d (Pl.bl' s) →
 condP (!(Pl.mkB x.1).toList == (ByteArray.mk #[]).toList)
 (((0 : Int) ≤ (0 : Int) ∧ (0 : Int) < (↑(Pl.mkB x.1).size : Int)) ∧ condP ((↑((Pl.mkB x.1).data.getD (0 : Nat) (0 : UInt8)).toNat : Int) != (41 : Int))
 (condP (decide ((↑x.2.length : Int) < (2 : Int)))
 (((0 : Int) ≤ (1 : Int) ∧ (1 : Int) ≤ (↑(Pl.mkB x.1).size : Int)) ∧ ∃ x_3 : ByteArray × Nat,
 ((Pl.mkB x.1).extract (1 : Nat) (Pl.mkB x.1).size = x_3.1 ∧ IntKind.i64.wrap ((5 : Int) - (↑d : Int) + (1 : Int)) = (5 : Int) - (↑x_3.2 : Int) ∧ True) ∧ ((x_3.1.size.le (1048576 : Nat) ∧ x_3.2 ≤ (4 : Nat)) ∧ x_3.2 < n) ∧ condP (!(Pl.rdT false x_3.2 (Pl.bl' x_3.1)).2.isSome)
 ((ByteArray.mk #[] = (Pl.rdT false d (Pl.bl' s)).1.1 ∧ Is (AV.lit (0 : Nat) (1 : Nat) fun (x x_4 : Nat) => AV.any) (terms (Pl.rdT false d (Pl.bl' s)).1.2) ∧ True) ∧ ByteArray.mk #[] = Pl.restB (Pl.rdT false d (Pl.bl' s)).2 ∧ false = (Pl.rdT false d (Pl.bl' s)).2.isSome ∧ True)
 ((0 : Nat) + x.2.length ≤ x.2.length ∧ (x.2.length + (1 : Nat)) * (40 : Nat) ≤ (70368744177664 : Nat) ∧ Exists fun (x' : List UInt8 × List Pl.Tm) =>
 (x'.1.length ≤ s.size ∧ x'.2.length ≤ (2 : Nat) ∧ (0 : Nat) < d ∧ Pl.kidsR (Pl.rdT false (d - (1 : Nat))) false (Pl.wname (Pl.bl' s)) ((2 : Nat) - x'.2.length) x'.2 x'.1 =
 Pl.rdT false d (Pl.bl' s)) ∧ (2 : Nat) - x'.2.length < (2 : Nat) - x.2.length ∧ ((5 : Int) - (↑d : Int) = (5 : Int) - (↑d : Int) ∧ (0 : Nat) = (0 : Nat) ∧ (0 : Nat) = (0 : Nat) ∧ Pl.restB (Pl.rdT false x_3.2 (Pl.bl' x_3.1)).2 = Pl.mkB x'.1 ∧ True) ∧ (ByteArray.empty = ByteArray.empty ∧ Is (AV.lit (0 : Nat) (1 : Nat) fun (x x_4 : Nat) => AV.any) nilA ∧ True) ∧ (Pl.wname (Pl.bl' s) = Pl.wname (Pl.bl' s) ∧ ((0 : Nat) = (0 : Nat) ∧ x.2.length + (1 : Nat) = x'.2.length) ∧ True) ∧ IsO
 (AObj.arr (x.2.length + (1 : Nat)) (2 : Nat)
 (joinC x.2.length (cT x.2)
 (rowsCell
 [[st (Pl.rdT false x_3.2 (Pl.bl' x_3.1)).1.1,
 terms (Pl.rdT false x_3.2 (Pl.bl' x_3.1)).1.2]])))
 (arT x'.2) ∧ True))
 (∃ x_3 : ByteArray × ByteArray,
 (Pl.mkB x.1 = x_3.1 ∧ ByteArray.mk #[(41 : UInt8)] = x_3.2 ∧ True) ∧ x_3.1.size.le (4294967280 : Nat) ∧ condP (!Lib.hasPrefix (Pl.bl' x_3.1) (Pl.bl' x_3.2))
 ((ByteArray.mk #[] = (Pl.rdT false d (Pl.bl' s)).1.1 ∧ Is (AV.lit (0 : Nat) (1 : Nat) fun (x x_4 : Nat) => AV.any) (terms (Pl.rdT false d (Pl.bl' s)).1.2) ∧ True) ∧ ByteArray.mk #[] = Pl.restB (Pl.rdT false d (Pl.bl' s)).2 ∧ false = (Pl.rdT false d (Pl.bl' s)).2.isSome ∧ True)
 (((0 : Int) ≤ (1 : Int) ∧ (1 : Int) ≤ (↑(Pl.mkB x.1).size : Int)) ∧ (0 : Nat) + x.2.length ≤ x.2.length ∧ (Pl.wname (Pl.bl' s) = (Pl.rdT false d (Pl.bl' s)).1.1 ∧ Is (terms x.2) (terms (Pl.rdT false d (Pl.bl' s)).1.2) ∧ True) ∧ (Pl.mkB x.1).extract (1 : Nat) (Pl.mkB x.1).size = Pl.restB (Pl.rdT false d (Pl.bl' s)).2 ∧ true = (Pl.rdT false d (Pl.bl' s)).2.isSome ∧ True)))
 (∃ x_3 : ByteArray × ByteArray,
 (Pl.mkB x.1 = x_3.1 ∧ ByteArray.mk #[(41 : UInt8)] = x_3.2 ∧ True) ∧ x_3.1.size.le (4294967280 : Nat) ∧ condP (!Lib.hasPrefix (Pl.bl' x_3.1) (Pl.bl' x_3.2))
 ((ByteArray.mk #[] = (Pl.rdT false d (Pl.bl' s)).1.1 ∧ Is (AV.lit (0 : Nat) (1 : Nat) fun (x x_4 : Nat) => AV.any) (terms (Pl.rdT false d (Pl.bl' s)).1.2) ∧ True) ∧ ByteArray.mk #[] = Pl.restB (Pl.rdT false d (Pl.bl' s)).2 ∧ false = (Pl.rdT false d (Pl.bl' s)).2.isSome ∧ True)
 (((0 : Int) ≤ (1 : Int) ∧ (1 : Int) ≤ (↑(Pl.mkB x.1).size : Int)) ∧ (0 : Nat) + x.2.length ≤ x.2.length ∧ (Pl.wname (Pl.bl' s) = (Pl.rdT false d (Pl.bl' s)).1.1 ∧ Is (terms x.2) (terms (Pl.rdT false d (Pl.bl' s)).1.2) ∧ True) ∧ (Pl.mkB x.1).extract (1 : Nat) (Pl.mkB x.1).size = Pl.restB (Pl.rdT false d (Pl.bl' s)).2 ∧ true = (Pl.rdT false d (Pl.bl' s)).2.isSome ∧ True)))
 (∃ x_3 : ByteArray × ByteArray,
 (Pl.mkB x.1 = x_3.1 ∧ ByteArray.mk #[(41 : UInt8)] = x_3.2 ∧ True) ∧ x_3.1.size.le (4294967280 : Nat) ∧ condP (!Lib.hasPrefix (Pl.bl' x_3.1) (Pl.bl' x_3.2))
 ((ByteArray.mk #[] = (Pl.rdT false d (Pl.bl' s)).1.1 ∧ Is (AV.lit (0 : Nat) (1 : Nat) fun (x x_4 : Nat) => AV.any) (terms (Pl.rdT false d (Pl.bl' s)).1.2) ∧ True) ∧ ByteArray.mk #[] = Pl.restB (Pl.rdT false d (Pl.bl' s)).2 ∧ false = (Pl.rdT false d (Pl.bl' s)).2.isSome ∧ True)
 (((0 : Int) ≤ (1 : Int) ∧ (1 : Int) ≤ (↑(Pl.mkB x.1).size : Int)) ∧ (0 : Nat) + x.2.length ≤ x.2.length ∧ (Pl.wname (Pl.bl' s) = (Pl.rdT false d (Pl.bl' s)).1.1 ∧ Is (terms x.2) (terms (Pl.rdT false d (Pl.bl' s)).1.2) ∧ True) ∧ (Pl.mkB x.1).extract (1 : Nat) (Pl.mkB x.1).size = Pl.restB (Pl.rdT false d (Pl.bl' s)).2 ∧ true = (Pl.rdT false d (Pl.bl' s)).2.isSome ∧ True))))))) = Goal Tryz.prog [K_iNameOk, K_HasPrefix, (K_readTerm n)] (A_readTerm s d) (K_readTerm (n + 1)).1 (K_readTerm (n + 1)).2 ((s, d)) := by kernel_rfl

theorem vc_sTermText (x : Pl.TP) : (∃ x_1 : Pl.TP,
 ((x.1 = x_1.1 ∧ Is (terms x.2) (terms x_1.2) ∧ True) ∧ True) ∧ SmT (Pl.Tree.mk x_1.1 x_1.2) ∧ condP (!Pl.right (Pl.Tree.mk x_1.1 x_1.2)) (ByteArray.mk #[] = Pl.tx (Pl.right (Pl.Tree.mk x.1 x.2)) (Pl.textB (Pl.Tree.mk x.1 x.2)))
 (∃ x_2 : Pl.TP,
 ((x.1 = x_2.1 ∧ Is (terms x.2) (terms x_2.2) ∧ True) ∧ True) ∧ SmT (Pl.Tree.mk x_2.1 x_2.2) ∧ Pl.textT (Pl.Tree.mk x_2.1 x_2.2) = Pl.tx (Pl.right (Pl.Tree.mk x.1 x.2)) (Pl.textB (Pl.Tree.mk x.1 x.2)))) = Goal Tryz.prog [K_l4Right, K_lText] ([]) K_sTermText.1 K_sTermText.2 (x) := by kernel_rfl

theorem vc_sTermRead (s : ByteArray) : (∃ x : ByteArray × Nat × Nat,
 (s = x.1 ∧ (0 : Int) = (↑x.2.1 : Int) ∧ (4 : Int) = (↑x.2.2 : Int) ∧ True) ∧ (x.1.size.le (1048576 : Nat) ∧ x.2.1 ≤ x.1.size ∧ x.2.2 ≤ (4 : Nat)) ∧ condP (Pl.posn x.1 (Pl.rdT true x.2.2 (List.drop x.2.1 (Pl.bl' x.1))).2 != (↑s.size : Int))
 ((ByteArray.mk #[] = (Pl.tmRd s).1.1 ∧ Is (AV.lit (0 : Nat) (1 : Nat) fun (x x_1 : Nat) => AV.any) (terms (Pl.tmRd s).1.2) ∧ True) ∧ false = (Pl.tmRd s).2 ∧ True)
 (condP (s.toList == (ByteArray.mk #[]).toList)
 ((ByteArray.mk #[] = (Pl.tmRd s).1.1 ∧ Is (AV.lit (0 : Nat) (1 : Nat) fun (x x_1 : Nat) => AV.any) (terms (Pl.tmRd s).1.2) ∧ True) ∧ false = (Pl.tmRd s).2 ∧ True)
 (∃ x_1 : Pl.TP,
 (((Pl.rdT true x.2.2 (List.drop x.2.1 (Pl.bl' x.1))).1.1 = x_1.1 ∧ Is (terms (Pl.rdT true x.2.2 (List.drop x.2.1 (Pl.bl' x.1))).1.2) (terms x_1.2) ∧ True) ∧ True) ∧ SmT (Pl.Tree.mk x_1.1 x_1.2) ∧ condP (!(Pl.tx (Pl.right (Pl.Tree.mk x_1.1 x_1.2)) (Pl.textB (Pl.Tree.mk x_1.1 x_1.2))).toList == s.toList)
 ((ByteArray.mk #[] = (Pl.tmRd s).1.1 ∧ Is (AV.lit (0 : Nat) (1 : Nat) fun (x x_2 : Nat) => AV.any) (terms (Pl.tmRd s).1.2) ∧ True) ∧ false = (Pl.tmRd s).2 ∧ True)
 (((Pl.rdT true x.2.2 (List.drop x.2.1 (Pl.bl' x.1))).1.1 = (Pl.tmRd s).1.1 ∧ Is (terms (Pl.rdT true x.2.2 (List.drop x.2.1 (Pl.bl' x.1))).1.2) (terms (Pl.tmRd s).1.2) ∧ True) ∧ true = (Pl.tmRd s).2 ∧ True)))) = Goal Tryz.prog [K_lRead, K_sTermText] ([]) K_sTermRead.1 K_sTermRead.2 (s) := by kernel_rfl

theorem vc_iTermRead (s : ByteArray) : (∃ x : ByteArray × Nat,
 (s = x.1 ∧ (1 : Int) = (5 : Int) - (↑x.2 : Int) ∧ True) ∧ (x.1.size.le (1048576 : Nat) ∧ x.2 ≤ (4 : Nat)) ∧ condP (!(Pl.rdT false x.2 (Pl.bl' x.1)).2.isSome)
 ((ByteArray.mk #[] = (Pl.tmRd s).1.1 ∧ Is (AV.lit (0 : Nat) (1 : Nat) fun (x x_1 : Nat) => AV.any) (terms (Pl.tmRd s).1.2) ∧ True) ∧ false = (Pl.tmRd s).2 ∧ True)
 (condP (!(Pl.restB (Pl.rdT false x.2 (Pl.bl' x.1)).2).toList == (ByteArray.mk #[]).toList)
 ((ByteArray.mk #[] = (Pl.tmRd s).1.1 ∧ Is (AV.lit (0 : Nat) (1 : Nat) fun (x x_1 : Nat) => AV.any) (terms (Pl.tmRd s).1.2) ∧ True) ∧ false = (Pl.tmRd s).2 ∧ True)
 (∃ x_1 : Pl.TP,
 (((Pl.rdT false x.2 (Pl.bl' x.1)).1.1 = x_1.1 ∧ Is (terms (Pl.rdT false x.2 (Pl.bl' x.1)).1.2) (terms x_1.2) ∧ True) ∧ True) ∧ SmT (Pl.Tree.mk x_1.1 x_1.2) ∧ condP (!Pl.right (Pl.Tree.mk x_1.1 x_1.2))
 ((ByteArray.mk #[] = (Pl.tmRd s).1.1 ∧ Is (AV.lit (0 : Nat) (1 : Nat) fun (x x_2 : Nat) => AV.any) (terms (Pl.tmRd s).1.2) ∧ True) ∧ false = (Pl.tmRd s).2 ∧ True)
 (∃ x_2 : Pl.TP,
 (((Pl.rdT false x.2 (Pl.bl' x.1)).1.1 = x_2.1 ∧ Is (terms (Pl.rdT false x.2 (Pl.bl' x.1)).1.2) (terms x_2.2) ∧ True) ∧ True) ∧ SmT (Pl.Tree.mk x_2.1 x_2.2) ∧ condP (!(Pl.textT (Pl.Tree.mk x_2.1 x_2.2)).toList == s.toList)
 ((ByteArray.mk #[] = (Pl.tmRd s).1.1 ∧ Is (AV.lit (0 : Nat) (1 : Nat) fun (x x_3 : Nat) => AV.any) (terms (Pl.tmRd s).1.2) ∧ True) ∧ false = (Pl.tmRd s).2 ∧ True)
 (((Pl.rdT false x.2 (Pl.bl' x.1)).1.1 = (Pl.tmRd s).1.1 ∧ Is (terms (Pl.rdT false x.2 (Pl.bl' x.1)).1.2) (terms (Pl.tmRd s).1.2) ∧ True) ∧ true = (Pl.tmRd s).2 ∧ True))))) = Goal Tryz.prog [K_rTerm, K_isTerm, K_tText] ([]) K_iTermRead.1 K_iTermRead.2 (s) := by kernel_rfl

theorem vc_l6Scan (s : ByteArray) : (∃ x : ByteArray × UInt8,
 (s = x.1 ∧ (32 : Int) = (↑x.2.toNat : Int) ∧ True) ∧ x.1.size.le (4294967280 : Nat) ∧ (∃ x_1 : Nat,
 x_1 ≤ Min.min ((Pl.cut (32 : UInt8) s).length - (2 : Nat)) (5 : Nat) ∧ ((0 : Nat) = (0 : Nat) ∧ Is (strs (Pl.cut x.2 x.1)) (strs (Pl.cut (32 : UInt8) s)) ∧ (0 : Nat) = (0 : Nat) ∧ (↑(Pl.cut x.2 x.1).length : Int) = (↑(Pl.cut (32 : UInt8) s).length : Int) ∧ (0 : Int) = (↑x_1 : Int) ∧ True) ∧ ((0 : Int) = (0 : Int) ∧ ByteArray.mk #[] = ByteArray.empty ∧ Is (AV.lit (0 : Nat) (1 : Nat) fun (x x_2 : Nat) => AV.any) nilA ∧ ByteArray.mk #[] = ByteArray.empty ∧ Is (AV.lit (0 : Nat) (1 : Nat) fun (x x_2 : Nat) => AV.any) nilA ∧ Is (AV.lit (0 : Nat) (1 : Nat) fun (x x_2 : Nat) => AV.any) nilA ∧ Is (AV.lit (0 : Nat) (1 : Nat) fun (x x_2 : Nat) => AV.any) nilA ∧ (0 : Int) = (0 : Int) ∧ false = false ∧ True) ∧ ((2 : Int) = (2 : Int) ∧ ByteArray.mk #[] = ByteArray.empty ∧ Is (AV.lit (0 : Nat) (1 : Nat) fun (x x_2 : Nat) => AV.any) nilA ∧ ByteArray.mk #[] = ByteArray.empty ∧ Is (AV.lit (0 : Nat) (1 : Nat) fun (x x_2 : Nat) => AV.any) nilA ∧ ((0 : Nat) = (0 : Nat) ∧ (0 : Nat) = (0 : Nat) ∧ x_1 = (0 : Nat)) ∧ ((0 : Nat) = (0 : Nat) ∧ (0 : Nat) = (0 : Nat) ∧ x_1 = (0 : Nat)) ∧ (0 : Int) = (0 : Int) ∧ false = false ∧ True) ∧ (Pl.numsS (List.take x_1 (Pl.cut (32 : UInt8) s))).length = (0 : Nat) ∧ (Pl.timesS (List.take x_1 (Pl.cut (32 : UInt8) s))).length = (0 : Nat) ∧ True) ∧ ∀ (x : Nat),
 x ≤ Min.min ((Pl.cut (32 : UInt8) s).length - (2 : Nat)) (5 : Nat) →
 condP (decide (IntKind.i64.wrap ((↑x : Int) + (2 : Int)) < (↑(Pl.cut (32 : UInt8) s).length : Int)))
 (condP (decide ((↑x : Int) ≤ (4 : Int)))
 (((0 : Int) ≤ (↑x : Int) ∧ (↑x : Int) < (↑(Pl.cut (32 : UInt8) s).length : Int)) ∧ x < (Pl.cut (32 : UInt8) s).length ∧ ∃ x_1 : ByteArray × UInt8,
 ((Pl.cut (32 : UInt8) s).getD x ByteArray.empty = x_1.1 ∧ (42 : Int) = (↑x_1.2.toNat : Int) ∧ True) ∧ x_1.1.size.le (4294967280 : Nat) ∧ ((0 : Int) ≤ (0 : Int) ∧ (0 : Int) < (↑(Pl.cut x_1.2 x_1.1).length : Int)) ∧ (0 : Nat) < (Pl.cut x_1.2 x_1.1).length ∧ ∃ x_2 : ByteArray,
 ((Pl.cut x_1.2 x_1.1).getD (0 : Nat) ByteArray.empty = x_2 ∧ True) ∧ x_2.size.le (4294967280 : Nat) ∧ condP (decide ((↑(Pl.cut x_1.2 x_1.1).length : Int) > (1 : Int)))
 (((0 : Int) ≤ (1 : Int) ∧ (1 : Int) < (↑(Pl.cut x_1.2 x_1.1).length : Int)) ∧ (1 : Nat) < (Pl.cut x_1.2 x_1.1).length ∧ ∃ x_3 : ByteArray,
 ((Pl.cut x_1.2 x_1.1).getD (1 : Nat) ByteArray.empty = x_3 ∧ True) ∧ x_3.size.le (1048576 : Nat) ∧ (0 : Nat) + x ≤ (Pl.numsS (List.take x (Pl.cut (32 : UInt8) s))).length ∧ (x + (1 : Nat)) * (40 : Nat) ≤ (70368744177664 : Nat) ∧ (0 : Nat) + x ≤ (Pl.timesS (List.take x (Pl.cut (32 : UInt8) s))).length ∧ (x + (1 : Nat)) * (8 : Nat) ≤ (70368744177664 : Nat) ∧ Exists fun (x' : Nat) =>
 x' ≤ Min.min ((Pl.cut (32 : UInt8) s).length - (2 : Nat)) (5 : Nat) ∧ (5 : Nat) - x' < (5 : Nat) - x ∧ ((0 : Nat) = (0 : Nat) ∧ Is (strs (Pl.cut (32 : UInt8) s)) (strs (Pl.cut (32 : UInt8) s)) ∧ (0 : Nat) = (0 : Nat) ∧ (↑(Pl.cut (32 : UInt8) s).length : Int) = (↑(Pl.cut (32 : UInt8) s).length : Int) ∧ IntKind.i64.wrap ((↑x : Int) + (1 : Int)) = (↑x' : Int) ∧ True) ∧ ((0 : Int) = (0 : Int) ∧ ByteArray.empty = ByteArray.empty ∧ Is (AV.lit (0 : Nat) (1 : Nat) fun (x x_4 : Nat) => AV.any) nilA ∧ ByteArray.empty = ByteArray.empty ∧ Is (AV.lit (0 : Nat) (1 : Nat) fun (x x_4 : Nat) => AV.any) nilA ∧ Is (AV.lit (0 : Nat) (1 : Nat) fun (x x_4 : Nat) => AV.any) nilA ∧ Is (AV.lit (0 : Nat) (1 : Nat) fun (x x_4 : Nat) => AV.any) nilA ∧ (0 : Int) = (0 : Int) ∧ false = false ∧ True) ∧ ((2 : Int) = (2 : Int) ∧ ByteArray.empty = ByteArray.empty ∧ Is (AV.lit (0 : Nat) (1 : Nat) fun (x x_4 : Nat) => AV.any) nilA ∧ ByteArray.empty = ByteArray.empty ∧ Is (AV.lit (0 : Nat) (1 : Nat) fun (x x_4 : Nat) => AV.any) nilA ∧ ((0 : Nat) = (0 : Nat) ∧ x + (1 : Nat) = x') ∧ ((0 : Nat) = (0 : Nat) ∧ x + (1 : Nat) = x') ∧ (0 : Int) = (0 : Int) ∧ false = false ∧ True) ∧ IsO
 (AObj.arr (x + (1 : Nat)) (2 : Nat)
 (joinC x (cT (Pl.numsS (List.take x (Pl.cut (32 : UInt8) s))))
 (rowsCell [[st (Pl.tmRd x_3).1.1, terms (Pl.tmRd x_3).1.2]])))
 (arT (Pl.numsS (List.take x' (Pl.cut (32 : UInt8) s)))) ∧ IsO
 (AObj.arr (x + (1 : Nat)) (1 : Nat)
 (joinC x (cI (Pl.timesS (List.take x (Pl.cut (32 : UInt8) s)))) (rowsCell [[i64 (Pl.num x_2).1]])))
 (arI (Pl.timesS (List.take x' (Pl.cut (32 : UInt8) s)))) ∧ True)
 ((0 : Nat) + x ≤ (Pl.numsS (List.take x (Pl.cut (32 : UInt8) s))).length ∧ (x + (1 : Nat)) * (40 : Nat) ≤ (70368744177664 : Nat) ∧ (0 : Nat) + x ≤ (Pl.timesS (List.take x (Pl.cut (32 : UInt8) s))).length ∧ (x + (1 : Nat)) * (8 : Nat) ≤ (70368744177664 : Nat) ∧ Exists fun (x' : Nat) =>
 x' ≤ Min.min ((Pl.cut (32 : UInt8) s).length - (2 : Nat)) (5 : Nat) ∧ (5 : Nat) - x' < (5 : Nat) - x ∧ ((0 : Nat) = (0 : Nat) ∧ Is (strs (Pl.cut (32 : UInt8) s)) (strs (Pl.cut (32 : UInt8) s)) ∧ (0 : Nat) = (0 : Nat) ∧ (↑(Pl.cut (32 : UInt8) s).length : Int) = (↑(Pl.cut (32 : UInt8) s).length : Int) ∧ IntKind.i64.wrap ((↑x : Int) + (1 : Int)) = (↑x' : Int) ∧ True) ∧ ((0 : Int) = (0 : Int) ∧ ByteArray.empty = ByteArray.empty ∧ Is (AV.lit (0 : Nat) (1 : Nat) fun (x x_3 : Nat) => AV.any) nilA ∧ ByteArray.empty = ByteArray.empty ∧ Is (AV.lit (0 : Nat) (1 : Nat) fun (x x_3 : Nat) => AV.any) nilA ∧ Is (AV.lit (0 : Nat) (1 : Nat) fun (x x_3 : Nat) => AV.any) nilA ∧ Is (AV.lit (0 : Nat) (1 : Nat) fun (x x_3 : Nat) => AV.any) nilA ∧ (0 : Int) = (0 : Int) ∧ false = false ∧ True) ∧ ((2 : Int) = (2 : Int) ∧ ByteArray.empty = ByteArray.empty ∧ Is (AV.lit (0 : Nat) (1 : Nat) fun (x x_3 : Nat) => AV.any) nilA ∧ ByteArray.empty = ByteArray.empty ∧ Is (AV.lit (0 : Nat) (1 : Nat) fun (x x_3 : Nat) => AV.any) nilA ∧ ((0 : Nat) = (0 : Nat) ∧ x + (1 : Nat) = x') ∧ ((0 : Nat) = (0 : Nat) ∧ x + (1 : Nat) = x') ∧ (0 : Int) = (0 : Int) ∧ false = false ∧ True) ∧ IsO
 (AObj.arr (x + (1 : Nat)) (2 : Nat)
 (joinC x (cT (Pl.numsS (List.take x (Pl.cut (32 : UInt8) s))))
 (rowsCell [[st (ByteArray.mk #[]), AV.lit (0 : Nat) (1 : Nat) fun (x x_3 : Nat) => AV.any]])))
 (arT (Pl.numsS (List.take x' (Pl.cut (32 : UInt8) s)))) ∧ IsO
 (AObj.arr (x + (1 : Nat)) (1 : Nat)
 (joinC x (cI (Pl.timesS (List.take x (Pl.cut (32 : UInt8) s)))) (rowsCell [[i64 (Pl.num x_2).1]])))
 (arI (Pl.timesS (List.take x' (Pl.cut (32 : UInt8) s)))) ∧ True))
 (condP (decide ((↑(Pl.cut (32 : UInt8) s).length : Int) ≥ (2 : Int)))
 (((0 : Int) ≤ IntKind.i64.wrap ((↑(Pl.cut (32 : UInt8) s).length : Int) - (2 : Int)) ∧ IntKind.i64.wrap ((↑(Pl.cut (32 : UInt8) s).length : Int) - (2 : Int)) < (↑(Pl.cut (32 : UInt8) s).length : Int)) ∧ (IntKind.i64.wrap ((↑(Pl.cut (32 : UInt8) s).length : Int) - (2 : Int))).toNat < (Pl.cut (32 : UInt8) s).length ∧ ((0 : Int) ≤ IntKind.i64.wrap ((↑(Pl.cut (32 : UInt8) s).length : Int) - (1 : Int)) ∧ IntKind.i64.wrap ((↑(Pl.cut (32 : UInt8) s).length : Int) - (1 : Int)) < (↑(Pl.cut (32 : UInt8) s).length : Int)) ∧ (IntKind.i64.wrap ((↑(Pl.cut (32 : UInt8) s).length : Int) - (1 : Int))).toNat < (Pl.cut (32 : UInt8) s).length ∧ ∃ x_1 : ByteArray,
 ((Pl.cut (32 : UInt8) s).getD (IntKind.i64.wrap ((↑(Pl.cut (32 : UInt8) s).length : Int) - (1 : Int))).toNat ByteArray.empty = x_1 ∧ True) ∧ x_1.size.le (4294967280 : Nat) ∧ (0 : Nat) + x ≤ (Pl.numsS (List.take x (Pl.cut (32 : UInt8) s))).length ∧ (0 : Nat) + x ≤ (Pl.timesS (List.take x (Pl.cut (32 : UInt8) s))).length ∧ (2 : Int) = Int.ofNat ((2 : Nat)) ∧ ByteArray.empty = ByteArray.mk #[] ∧ Is (AV.lit (0 : Nat) (1 : Nat) fun (x x_2 : Nat) => AV.any) (terms []) ∧ ByteArray.empty = ByteArray.mk #[] ∧ Is (AV.lit (0 : Nat) (1 : Nat) fun (x x_2 : Nat) => AV.any) (terms []) ∧ Is (AV.sl x (2 : Nat) (cT (Pl.numsS (List.take x (Pl.cut (32 : UInt8) s)))))
 (terms
 (Pl.numsS (List.take (Min.min ((Pl.cut (32 : UInt8) s).length - (2 : Nat)) (5 : Nat)) (Pl.cut (32 : UInt8) s)),
 Pl.timesS (List.take (Min.min ((Pl.cut (32 : UInt8) s).length - (2 : Nat)) (5 : Nat)) (Pl.cut (32 : UInt8) s)),
 Pl.boundS (Pl.cut (32 : UInt8) s), Pl.strictS (Pl.cut (32 : UInt8) s)).1) ∧ Is (AV.sl x (1 : Nat) (cI (Pl.timesS (List.take x (Pl.cut (32 : UInt8) s)))))
 (ints
 (Pl.timesS (List.take (Min.min ((Pl.cut (32 : UInt8) s).length - (2 : Nat)) (5 : Nat)) (Pl.cut (32 : UInt8) s)),
 Pl.boundS (Pl.cut (32 : UInt8) s), Pl.strictS (Pl.cut (32 : UInt8) s)).1) ∧ (Pl.num x_1).1 = (Pl.boundS (Pl.cut (32 : UInt8) s), Pl.strictS (Pl.cut (32 : UInt8) s)).1 ∧ (((Pl.cut (32 : UInt8) s).getD (IntKind.i64.wrap ((↑(Pl.cut (32 : UInt8) s).length : Int) - (2 : Int))).toNat ByteArray.empty).toList ==
 (ByteArray.mk #[(60 : UInt8)]).toList) =
 (Pl.boundS (Pl.cut (32 : UInt8) s), Pl.strictS (Pl.cut (32 : UInt8) s)).2 ∧ True)
 ((0 : Nat) + x ≤ (Pl.numsS (List.take x (Pl.cut (32 : UInt8) s))).length ∧ (0 : Nat) + x ≤ (Pl.timesS (List.take x (Pl.cut (32 : UInt8) s))).length ∧ (2 : Int) = Int.ofNat ((2 : Nat)) ∧ ByteArray.empty = ByteArray.mk #[] ∧ Is (AV.lit (0 : Nat) (1 : Nat) fun (x x_1 : Nat) => AV.any) (terms []) ∧ ByteArray.empty = ByteArray.mk #[] ∧ Is (AV.lit (0 : Nat) (1 : Nat) fun (x x_1 : Nat) => AV.any) (terms []) ∧ Is (AV.sl x (2 : Nat) (cT (Pl.numsS (List.take x (Pl.cut (32 : UInt8) s)))))
 (terms
 (Pl.numsS (List.take (Min.min ((Pl.cut (32 : UInt8) s).length - (2 : Nat)) (5 : Nat)) (Pl.cut (32 : UInt8) s)),
 Pl.timesS (List.take (Min.min ((Pl.cut (32 : UInt8) s).length - (2 : Nat)) (5 : Nat)) (Pl.cut (32 : UInt8) s)), Pl.boundS (Pl.cut (32 : UInt8) s),
 Pl.strictS (Pl.cut (32 : UInt8) s)).1) ∧ Is (AV.sl x (1 : Nat) (cI (Pl.timesS (List.take x (Pl.cut (32 : UInt8) s)))))
 (ints
 (Pl.timesS (List.take (Min.min ((Pl.cut (32 : UInt8) s).length - (2 : Nat)) (5 : Nat)) (Pl.cut (32 : UInt8) s)), Pl.boundS (Pl.cut (32 : UInt8) s),
 Pl.strictS (Pl.cut (32 : UInt8) s)).1) ∧ (0 : Int) = (Pl.boundS (Pl.cut (32 : UInt8) s), Pl.strictS (Pl.cut (32 : UInt8) s)).1 ∧ false = (Pl.boundS (Pl.cut (32 : UInt8) s), Pl.strictS (Pl.cut (32 : UInt8) s)).2 ∧ True)))
 (condP (decide ((↑(Pl.cut (32 : UInt8) s).length : Int) ≥ (2 : Int)))
 (((0 : Int) ≤ IntKind.i64.wrap ((↑(Pl.cut (32 : UInt8) s).length : Int) - (2 : Int)) ∧ IntKind.i64.wrap ((↑(Pl.cut (32 : UInt8) s).length : Int) - (2 : Int)) < (↑(Pl.cut (32 : UInt8) s).length : Int)) ∧ (IntKind.i64.wrap ((↑(Pl.cut (32 : UInt8) s).length : Int) - (2 : Int))).toNat < (Pl.cut (32 : UInt8) s).length ∧ ((0 : Int) ≤ IntKind.i64.wrap ((↑(Pl.cut (32 : UInt8) s).length : Int) - (1 : Int)) ∧ IntKind.i64.wrap ((↑(Pl.cut (32 : UInt8) s).length : Int) - (1 : Int)) < (↑(Pl.cut (32 : UInt8) s).length : Int)) ∧ (IntKind.i64.wrap ((↑(Pl.cut (32 : UInt8) s).length : Int) - (1 : Int))).toNat < (Pl.cut (32 : UInt8) s).length ∧ ∃ x_1 : ByteArray,
 ((Pl.cut (32 : UInt8) s).getD (IntKind.i64.wrap ((↑(Pl.cut (32 : UInt8) s).length : Int) - (1 : Int))).toNat ByteArray.empty = x_1 ∧ True) ∧ x_1.size.le (4294967280 : Nat) ∧ (0 : Nat) + x ≤ (Pl.numsS (List.take x (Pl.cut (32 : UInt8) s))).length ∧ (0 : Nat) + x ≤ (Pl.timesS (List.take x (Pl.cut (32 : UInt8) s))).length ∧ (2 : Int) = Int.ofNat ((2 : Nat)) ∧ ByteArray.empty = ByteArray.mk #[] ∧ Is (AV.lit (0 : Nat) (1 : Nat) fun (x x_2 : Nat) => AV.any) (terms []) ∧ ByteArray.empty = ByteArray.mk #[] ∧ Is (AV.lit (0 : Nat) (1 : Nat) fun (x x_2 : Nat) => AV.any) (terms []) ∧ Is (AV.sl x (2 : Nat) (cT (Pl.numsS (List.take x (Pl.cut (32 : UInt8) s)))))
 (terms
 (Pl.numsS (List.take (Min.min ((Pl.cut (32 : UInt8) s).length - (2 : Nat)) (5 : Nat)) (Pl.cut (32 : UInt8) s)),
 Pl.timesS (List.take (Min.min ((Pl.cut (32 : UInt8) s).length - (2 : Nat)) (5 : Nat)) (Pl.cut (32 : UInt8) s)), Pl.boundS (Pl.cut (32 : UInt8) s),
 Pl.strictS (Pl.cut (32 : UInt8) s)).1) ∧ Is (AV.sl x (1 : Nat) (cI (Pl.timesS (List.take x (Pl.cut (32 : UInt8) s)))))
 (ints
 (Pl.timesS (List.take (Min.min ((Pl.cut (32 : UInt8) s).length - (2 : Nat)) (5 : Nat)) (Pl.cut (32 : UInt8) s)), Pl.boundS (Pl.cut (32 : UInt8) s),
 Pl.strictS (Pl.cut (32 : UInt8) s)).1) ∧ (Pl.num x_1).1 = (Pl.boundS (Pl.cut (32 : UInt8) s), Pl.strictS (Pl.cut (32 : UInt8) s)).1 ∧ (((Pl.cut (32 : UInt8) s).getD (IntKind.i64.wrap ((↑(Pl.cut (32 : UInt8) s).length : Int) - (2 : Int))).toNat ByteArray.empty).toList ==
 (ByteArray.mk #[(60 : UInt8)]).toList) =
 (Pl.boundS (Pl.cut (32 : UInt8) s), Pl.strictS (Pl.cut (32 : UInt8) s)).2 ∧ True)
 ((0 : Nat) + x ≤ (Pl.numsS (List.take x (Pl.cut (32 : UInt8) s))).length ∧ (0 : Nat) + x ≤ (Pl.timesS (List.take x (Pl.cut (32 : UInt8) s))).length ∧ (2 : Int) = Int.ofNat ((2 : Nat)) ∧ ByteArray.empty = ByteArray.mk #[] ∧ Is (AV.lit (0 : Nat) (1 : Nat) fun (x x_1 : Nat) => AV.any) (terms []) ∧ ByteArray.empty = ByteArray.mk #[] ∧ Is (AV.lit (0 : Nat) (1 : Nat) fun (x x_1 : Nat) => AV.any) (terms []) ∧ Is (AV.sl x (2 : Nat) (cT (Pl.numsS (List.take x (Pl.cut (32 : UInt8) s)))))
 (terms
 (Pl.numsS (List.take (Min.min ((Pl.cut (32 : UInt8) s).length - (2 : Nat)) (5 : Nat)) (Pl.cut (32 : UInt8) s)),
 Pl.timesS (List.take (Min.min ((Pl.cut (32 : UInt8) s).length - (2 : Nat)) (5 : Nat)) (Pl.cut (32 : UInt8) s)), Pl.boundS (Pl.cut (32 : UInt8) s),
 Pl.strictS (Pl.cut (32 : UInt8) s)).1) ∧ Is (AV.sl x (1 : Nat) (cI (Pl.timesS (List.take x (Pl.cut (32 : UInt8) s)))))
 (ints
 (Pl.timesS (List.take (Min.min ((Pl.cut (32 : UInt8) s).length - (2 : Nat)) (5 : Nat)) (Pl.cut (32 : UInt8) s)), Pl.boundS (Pl.cut (32 : UInt8) s),
 Pl.strictS (Pl.cut (32 : UInt8) s)).1) ∧ (0 : Int) = (Pl.boundS (Pl.cut (32 : UInt8) s), Pl.strictS (Pl.cut (32 : UInt8) s)).1 ∧ false = (Pl.boundS (Pl.cut (32 : UInt8) s), Pl.strictS (Pl.cut (32 : UInt8) s)).2 ∧ True))) = Goal Tryz.prog [K_l16Cut, K_l16Num, K_sTermRead] (A_l6Scan s) K_l6Scan.1 K_l6Scan.2 (s) := by kernel_rfl

theorem vc_sAtomRead (s : ByteArray) : (∃ x : ByteArray × UInt8,
 (s = x.1 ∧ (61 : Int) = (↑x.2.toNat : Int) ∧ True) ∧ x.1.size.le (4294967280 : Nat) ∧ ∃ x_1 : ByteArray,
 (s = x_1 ∧ True) ∧ x_1.size.le (1048576 : Nat) ∧ condP ((↑(Pl.cut x.2 x.1).length : Int) == (2 : Int))
 (∃ x_2 : ByteArray × UInt8,
 (s = x_2.1 ∧ (32 : Int) = (↑x_2.2.toNat : Int) ∧ True) ∧ x_2.1.size.le (4294967280 : Nat) ∧ condP ((↑(Pl.cut x_2.2 x_2.1).length : Int) == (1 : Int))
 (((0 : Int) ≤ (0 : Int) ∧ (0 : Int) < (↑(Pl.cut x.2 x.1).length : Int)) ∧ (0 : Nat) < (Pl.cut x.2 x.1).length ∧ ∃ x_3 : ByteArray,
 ((Pl.cut x.2 x.1).getD (0 : Nat) ByteArray.empty = x_3 ∧ True) ∧ x_3.size.le (1048576 : Nat) ∧ ((0 : Int) ≤ (1 : Int) ∧ (1 : Int) < (↑(Pl.cut x.2 x.1).length : Int)) ∧ (1 : Nat) < (Pl.cut x.2 x.1).length ∧ ∃ x_4 : ByteArray,
 ((Pl.cut x.2 x.1).getD (1 : Nat) ByteArray.empty = x_4 ∧ True) ∧ x_4.size.le (1048576 : Nat) ∧ condP (s.toList == (ByteArray.mk #[]).toList)
 (((0 : Int) = (Pl.atomReadS s).1.1 ∧ ByteArray.mk #[] = (Pl.atomReadS s).1.2.1.1 ∧ Is (AV.lit (0 : Nat) (1 : Nat) fun (x x_5 : Nat) => AV.any) (terms (Pl.atomReadS s).1.2.1.2) ∧ ByteArray.mk #[] = (Pl.atomReadS s).1.2.2.1.1 ∧ Is (AV.lit (0 : Nat) (1 : Nat) fun (x x_5 : Nat) => AV.any) (terms (Pl.atomReadS s).1.2.2.1.2) ∧ Is (AV.lit (0 : Nat) (1 : Nat) fun (x x_5 : Nat) => AV.any) (terms (Pl.atomReadS s).1.2.2.2.1) ∧ Is (AV.lit (0 : Nat) (1 : Nat) fun (x x_5 : Nat) => AV.any) (ints (Pl.atomReadS s).1.2.2.2.2.1) ∧ (0 : Int) = (Pl.atomReadS s).1.2.2.2.2.2.1 ∧ false = (Pl.atomReadS s).1.2.2.2.2.2.2 ∧ True) ∧ false = (Pl.atomReadS s).2 ∧ True)
 (∃ x : Pl.Atm,
 (((1 : Int) = x.1 ∧ (Pl.tmRd x_3).1.1 = x.2.1.1 ∧ Is (terms (Pl.tmRd x_3).1.2) (terms x.2.1.2) ∧ (Pl.tmRd x_4).1.1 = x.2.2.1.1 ∧ Is (terms (Pl.tmRd x_4).1.2) (terms x.2.2.1.2) ∧ Is (AV.lit (0 : Nat) (1 : Nat) fun (x x_5 : Nat) => AV.any) (terms x.2.2.2.1) ∧ Is (AV.lit (0 : Nat) (1 : Nat) fun (x x_5 : Nat) => AV.any) (ints x.2.2.2.2.1) ∧ (0 : Int) = x.2.2.2.2.2.1 ∧ false = x.2.2.2.2.2.2 ∧ True) ∧ True) ∧ SmA x ∧ condP (!(Pl.tx (Pl.atomRight x) (Pl.atomB x)).toList == s.toList)
 (((0 : Int) = (Pl.atomReadS s).1.1 ∧ ByteArray.mk #[] = (Pl.atomReadS s).1.2.1.1 ∧ Is (AV.lit (0 : Nat) (1 : Nat) fun (x x_5 : Nat) => AV.any) (terms (Pl.atomReadS s).1.2.1.2) ∧ ByteArray.mk #[] = (Pl.atomReadS s).1.2.2.1.1 ∧ Is (AV.lit (0 : Nat) (1 : Nat) fun (x x_5 : Nat) => AV.any) (terms (Pl.atomReadS s).1.2.2.1.2) ∧ Is (AV.lit (0 : Nat) (1 : Nat) fun (x x_5 : Nat) => AV.any) (terms (Pl.atomReadS s).1.2.2.2.1) ∧ Is (AV.lit (0 : Nat) (1 : Nat) fun (x x_5 : Nat) => AV.any) (ints (Pl.atomReadS s).1.2.2.2.2.1) ∧ (0 : Int) = (Pl.atomReadS s).1.2.2.2.2.2.1 ∧ false = (Pl.atomReadS s).1.2.2.2.2.2.2 ∧ True) ∧ false = (Pl.atomReadS s).2 ∧ True)
 (((1 : Int) = (Pl.atomReadS s).1.1 ∧ (Pl.tmRd x_3).1.1 = (Pl.atomReadS s).1.2.1.1 ∧ Is (terms (Pl.tmRd x_3).1.2) (terms (Pl.atomReadS s).1.2.1.2) ∧ (Pl.tmRd x_4).1.1 = (Pl.atomReadS s).1.2.2.1.1 ∧ Is (terms (Pl.tmRd x_4).1.2) (terms (Pl.atomReadS s).1.2.2.1.2) ∧ Is (AV.lit (0 : Nat) (1 : Nat) fun (x x_5 : Nat) => AV.any) (terms (Pl.atomReadS s).1.2.2.2.1) ∧ Is (AV.lit (0 : Nat) (1 : Nat) fun (x x_5 : Nat) => AV.any) (ints (Pl.atomReadS s).1.2.2.2.2.1) ∧ (0 : Int) = (Pl.atomReadS s).1.2.2.2.2.2.1 ∧ false = (Pl.atomReadS s).1.2.2.2.2.2.2 ∧ True) ∧ true = (Pl.atomReadS s).2 ∧ True)))
 (condP (s.toList == (ByteArray.mk #[]).toList)
 (((0 : Int) = (Pl.atomReadS s).1.1 ∧ ByteArray.mk #[] = (Pl.atomReadS s).1.2.1.1 ∧ Is (AV.lit (0 : Nat) (1 : Nat) fun (x x_3 : Nat) => AV.any) (terms (Pl.atomReadS s).1.2.1.2) ∧ ByteArray.mk #[] = (Pl.atomReadS s).1.2.2.1.1 ∧ Is (AV.lit (0 : Nat) (1 : Nat) fun (x x_3 : Nat) => AV.any) (terms (Pl.atomReadS s).1.2.2.1.2) ∧ Is (AV.lit (0 : Nat) (1 : Nat) fun (x x_3 : Nat) => AV.any) (terms (Pl.atomReadS s).1.2.2.2.1) ∧ Is (AV.lit (0 : Nat) (1 : Nat) fun (x x_3 : Nat) => AV.any) (ints (Pl.atomReadS s).1.2.2.2.2.1) ∧ (0 : Int) = (Pl.atomReadS s).1.2.2.2.2.2.1 ∧ false = (Pl.atomReadS s).1.2.2.2.2.2.2 ∧ True) ∧ false = (Pl.atomReadS s).2 ∧ True)
 (∃ x : Pl.Atm,
 ((Int.ofNat ((2 : Nat)) = x.1 ∧ ByteArray.mk #[] = x.2.1.1 ∧ Is (AV.sl ((0 : Nat)) (2 : Nat) fun (i j : Nat) => eT (Pl.Tree.mk ByteArray.empty []) j) (terms x.2.1.2) ∧ ByteArray.mk #[] = x.2.2.1.1 ∧ Is (AV.sl ((0 : Nat)) (2 : Nat) fun (i j : Nat) => eT (Pl.Tree.mk ByteArray.empty []) j) (terms x.2.2.1.2) ∧ Is
 (terms
 (Pl.numsS (List.take (Min.min ((Pl.cut (32 : UInt8) x_1).length - (2 : Nat)) (5 : Nat)) (Pl.cut (32 : UInt8) x_1)),
 Pl.timesS (List.take (Min.min ((Pl.cut (32 : UInt8) x_1).length - (2 : Nat)) (5 : Nat)) (Pl.cut (32 : UInt8) x_1)),
 Pl.boundS (Pl.cut (32 : UInt8) x_1), Pl.strictS (Pl.cut (32 : UInt8) x_1)).1)
 (terms x.2.2.2.1) ∧ Is
 (ints
 (Pl.timesS (List.take (Min.min ((Pl.cut (32 : UInt8) x_1).length - (2 : Nat)) (5 : Nat)) (Pl.cut (32 : UInt8) x_1)),
 Pl.boundS (Pl.cut (32 : UInt8) x_1), Pl.strictS (Pl.cut (32 : UInt8) x_1)).1)
 (ints x.2.2.2.2.1) ∧ (Pl.boundS (Pl.cut (32 : UInt8) x_1), Pl.strictS (Pl.cut (32 : UInt8) x_1)).1 = x.2.2.2.2.2.1 ∧ (Pl.boundS (Pl.cut (32 : UInt8) x_1), Pl.strictS (Pl.cut (32 : UInt8) x_1)).2 = x.2.2.2.2.2.2 ∧ True) ∧ True) ∧ SmA x ∧ condP (!(Pl.tx (Pl.atomRight x) (Pl.atomB x)).toList == s.toList)
 (((0 : Int) = (Pl.atomReadS s).1.1 ∧ ByteArray.mk #[] = (Pl.atomReadS s).1.2.1.1 ∧ Is (AV.lit (0 : Nat) (1 : Nat) fun (x x_3 : Nat) => AV.any) (terms (Pl.atomReadS s).1.2.1.2) ∧ ByteArray.mk #[] = (Pl.atomReadS s).1.2.2.1.1 ∧ Is (AV.lit (0 : Nat) (1 : Nat) fun (x x_3 : Nat) => AV.any) (terms (Pl.atomReadS s).1.2.2.1.2) ∧ Is (AV.lit (0 : Nat) (1 : Nat) fun (x x_3 : Nat) => AV.any) (terms (Pl.atomReadS s).1.2.2.2.1) ∧ Is (AV.lit (0 : Nat) (1 : Nat) fun (x x_3 : Nat) => AV.any) (ints (Pl.atomReadS s).1.2.2.2.2.1) ∧ (0 : Int) = (Pl.atomReadS s).1.2.2.2.2.2.1 ∧ false = (Pl.atomReadS s).1.2.2.2.2.2.2 ∧ True) ∧ false = (Pl.atomReadS s).2 ∧ True)
 ((Int.ofNat ((2 : Nat)) = (Pl.atomReadS s).1.1 ∧ ByteArray.mk #[] = (Pl.atomReadS s).1.2.1.1 ∧ Is (AV.sl ((0 : Nat)) (2 : Nat) fun (i j : Nat) => eT (Pl.Tree.mk ByteArray.empty []) j) (terms (Pl.atomReadS s).1.2.1.2) ∧ ByteArray.mk #[] = (Pl.atomReadS s).1.2.2.1.1 ∧ Is (AV.sl ((0 : Nat)) (2 : Nat) fun (i j : Nat) => eT (Pl.Tree.mk ByteArray.empty []) j) (terms (Pl.atomReadS s).1.2.2.1.2) ∧ Is
 (terms
 (Pl.numsS (List.take (Min.min ((Pl.cut (32 : UInt8) x_1).length - (2 : Nat)) (5 : Nat)) (Pl.cut (32 : UInt8) x_1)),
 Pl.timesS (List.take (Min.min ((Pl.cut (32 : UInt8) x_1).length - (2 : Nat)) (5 : Nat)) (Pl.cut (32 : UInt8) x_1)),
 Pl.boundS (Pl.cut (32 : UInt8) x_1), Pl.strictS (Pl.cut (32 : UInt8) x_1)).1)
 (terms (Pl.atomReadS s).1.2.2.2.1) ∧ Is
 (ints
 (Pl.timesS (List.take (Min.min ((Pl.cut (32 : UInt8) x_1).length - (2 : Nat)) (5 : Nat)) (Pl.cut (32 : UInt8) x_1)),
 Pl.boundS (Pl.cut (32 : UInt8) x_1), Pl.strictS (Pl.cut (32 : UInt8) x_1)).1)
 (ints (Pl.atomReadS s).1.2.2.2.2.1) ∧ (Pl.boundS (Pl.cut (32 : UInt8) x_1), Pl.strictS (Pl.cut (32 : UInt8) x_1)).1 = (Pl.atomReadS s).1.2.2.2.2.2.1 ∧ (Pl.boundS (Pl.cut (32 : UInt8) x_1), Pl.strictS (Pl.cut (32 : UInt8) x_1)).2 = (Pl.atomReadS s).1.2.2.2.2.2.2 ∧ True) ∧ true = (Pl.atomReadS s).2 ∧ True))))
 (condP (s.toList == (ByteArray.mk #[]).toList)
 (((0 : Int) = (Pl.atomReadS s).1.1 ∧ ByteArray.mk #[] = (Pl.atomReadS s).1.2.1.1 ∧ Is (AV.lit (0 : Nat) (1 : Nat) fun (x x_2 : Nat) => AV.any) (terms (Pl.atomReadS s).1.2.1.2) ∧ ByteArray.mk #[] = (Pl.atomReadS s).1.2.2.1.1 ∧ Is (AV.lit (0 : Nat) (1 : Nat) fun (x x_2 : Nat) => AV.any) (terms (Pl.atomReadS s).1.2.2.1.2) ∧ Is (AV.lit (0 : Nat) (1 : Nat) fun (x x_2 : Nat) => AV.any) (terms (Pl.atomReadS s).1.2.2.2.1) ∧ Is (AV.lit (0 : Nat) (1 : Nat) fun (x x_2 : Nat) => AV.any) (ints (Pl.atomReadS s).1.2.2.2.2.1) ∧ (0 : Int) = (Pl.atomReadS s).1.2.2.2.2.2.1 ∧ false = (Pl.atomReadS s).1.2.2.2.2.2.2 ∧ True) ∧ false = (Pl.atomReadS s).2 ∧ True)
 (∃ x : Pl.Atm,
 ((Int.ofNat ((2 : Nat)) = x.1 ∧ ByteArray.mk #[] = x.2.1.1 ∧ Is (AV.sl ((0 : Nat)) (2 : Nat) fun (i j : Nat) => eT (Pl.Tree.mk ByteArray.empty []) j) (terms x.2.1.2) ∧ ByteArray.mk #[] = x.2.2.1.1 ∧ Is (AV.sl ((0 : Nat)) (2 : Nat) fun (i j : Nat) => eT (Pl.Tree.mk ByteArray.empty []) j) (terms x.2.2.1.2) ∧ Is
 (terms
 (Pl.numsS (List.take (Min.min ((Pl.cut (32 : UInt8) x_1).length - (2 : Nat)) (5 : Nat)) (Pl.cut (32 : UInt8) x_1)),
 Pl.timesS (List.take (Min.min ((Pl.cut (32 : UInt8) x_1).length - (2 : Nat)) (5 : Nat)) (Pl.cut (32 : UInt8) x_1)), Pl.boundS (Pl.cut (32 : UInt8) x_1),
 Pl.strictS (Pl.cut (32 : UInt8) x_1)).1)
 (terms x.2.2.2.1) ∧ Is
 (ints
 (Pl.timesS (List.take (Min.min ((Pl.cut (32 : UInt8) x_1).length - (2 : Nat)) (5 : Nat)) (Pl.cut (32 : UInt8) x_1)), Pl.boundS (Pl.cut (32 : UInt8) x_1),
 Pl.strictS (Pl.cut (32 : UInt8) x_1)).1)
 (ints x.2.2.2.2.1) ∧ (Pl.boundS (Pl.cut (32 : UInt8) x_1), Pl.strictS (Pl.cut (32 : UInt8) x_1)).1 = x.2.2.2.2.2.1 ∧ (Pl.boundS (Pl.cut (32 : UInt8) x_1), Pl.strictS (Pl.cut (32 : UInt8) x_1)).2 = x.2.2.2.2.2.2 ∧ True) ∧ True) ∧ SmA x ∧ condP (!(Pl.tx (Pl.atomRight x) (Pl.atomB x)).toList == s.toList)
 (((0 : Int) = (Pl.atomReadS s).1.1 ∧ ByteArray.mk #[] = (Pl.atomReadS s).1.2.1.1 ∧ Is (AV.lit (0 : Nat) (1 : Nat) fun (x x_2 : Nat) => AV.any) (terms (Pl.atomReadS s).1.2.1.2) ∧ ByteArray.mk #[] = (Pl.atomReadS s).1.2.2.1.1 ∧ Is (AV.lit (0 : Nat) (1 : Nat) fun (x x_2 : Nat) => AV.any) (terms (Pl.atomReadS s).1.2.2.1.2) ∧ Is (AV.lit (0 : Nat) (1 : Nat) fun (x x_2 : Nat) => AV.any) (terms (Pl.atomReadS s).1.2.2.2.1) ∧ Is (AV.lit (0 : Nat) (1 : Nat) fun (x x_2 : Nat) => AV.any) (ints (Pl.atomReadS s).1.2.2.2.2.1) ∧ (0 : Int) = (Pl.atomReadS s).1.2.2.2.2.2.1 ∧ false = (Pl.atomReadS s).1.2.2.2.2.2.2 ∧ True) ∧ false = (Pl.atomReadS s).2 ∧ True)
 ((Int.ofNat ((2 : Nat)) = (Pl.atomReadS s).1.1 ∧ ByteArray.mk #[] = (Pl.atomReadS s).1.2.1.1 ∧ Is (AV.sl ((0 : Nat)) (2 : Nat) fun (i j : Nat) => eT (Pl.Tree.mk ByteArray.empty []) j) (terms (Pl.atomReadS s).1.2.1.2) ∧ ByteArray.mk #[] = (Pl.atomReadS s).1.2.2.1.1 ∧ Is (AV.sl ((0 : Nat)) (2 : Nat) fun (i j : Nat) => eT (Pl.Tree.mk ByteArray.empty []) j) (terms (Pl.atomReadS s).1.2.2.1.2) ∧ Is
 (terms
 (Pl.numsS (List.take (Min.min ((Pl.cut (32 : UInt8) x_1).length - (2 : Nat)) (5 : Nat)) (Pl.cut (32 : UInt8) x_1)),
 Pl.timesS (List.take (Min.min ((Pl.cut (32 : UInt8) x_1).length - (2 : Nat)) (5 : Nat)) (Pl.cut (32 : UInt8) x_1)), Pl.boundS (Pl.cut (32 : UInt8) x_1),
 Pl.strictS (Pl.cut (32 : UInt8) x_1)).1)
 (terms (Pl.atomReadS s).1.2.2.2.1) ∧ Is
 (ints
 (Pl.timesS (List.take (Min.min ((Pl.cut (32 : UInt8) x_1).length - (2 : Nat)) (5 : Nat)) (Pl.cut (32 : UInt8) x_1)), Pl.boundS (Pl.cut (32 : UInt8) x_1),
 Pl.strictS (Pl.cut (32 : UInt8) x_1)).1)
 (ints (Pl.atomReadS s).1.2.2.2.2.1) ∧ (Pl.boundS (Pl.cut (32 : UInt8) x_1), Pl.strictS (Pl.cut (32 : UInt8) x_1)).1 = (Pl.atomReadS s).1.2.2.2.2.2.1 ∧ (Pl.boundS (Pl.cut (32 : UInt8) x_1), Pl.strictS (Pl.cut (32 : UInt8) x_1)).2 = (Pl.atomReadS s).1.2.2.2.2.2.2 ∧ True) ∧ true = (Pl.atomReadS s).2 ∧ True)))) = Goal Tryz.prog [K_l16Cut, K_l6Scan, K_sTermRead, K_sAtomText] ([]) K_sAtomRead.1 K_sAtomRead.2 (s) := by kernel_rfl

theorem vc_readEq (s : ByteArray) : (∃ x : ByteArray × ByteArray,
 (s = x.1 ∧ ByteArray.mk #[(61 : UInt8)] = x.2 ∧ True) ∧ x.1.size.le (4294967280 : Nat) ∧ ∃ x_1 : ByteArray,
 (Pl.cutA x.1 x.2 = x_1 ∧ True) ∧ x_1.size.le (1048576 : Nat) ∧ ∃ x_2 : ByteArray,
 (Pl.cutR x.1 x.2 = x_2 ∧ True) ∧ x_2.size.le (1048576 : Nat) ∧ condP (Pl.cutK x.1 x.2)
 (condP (Pl.tmRd x_1).2
 (((1 : Int) = Int.ofNat ((1 : Nat)) ∧ (Pl.tmRd x_1).1.1 = ((Pl.tmRd (Pl.cutA s Pl.eqSgn)).1, (Pl.tmRd (Pl.cutR s Pl.eqSgn)).1, Pl.noT, Pl.noI, (0 : Int), false).1.1 ∧ Is (terms (Pl.tmRd x_1).1.2) (terms ((Pl.tmRd (Pl.cutA s Pl.eqSgn)).1, (Pl.tmRd (Pl.cutR s Pl.eqSgn)).1, Pl.noT, Pl.noI, (0 : Int), false).1.2) ∧ (Pl.tmRd x_2).1.1 = ((Pl.tmRd (Pl.cutR s Pl.eqSgn)).1, Pl.noT, Pl.noI, (0 : Int), false).1.1 ∧ Is (terms (Pl.tmRd x_2).1.2) (terms ((Pl.tmRd (Pl.cutR s Pl.eqSgn)).1, Pl.noT, Pl.noI, (0 : Int), false).1.2) ∧ Is (AV.lit (0 : Nat) (1 : Nat) fun (x x_3 : Nat) => AV.any) (terms []) ∧ Is (AV.lit (0 : Nat) (1 : Nat) fun (x x_3 : Nat) => AV.any) (ints []) ∧ (0 : Int) = Int.ofNat ((0 : Nat)) ∧ false = false ∧ True) ∧ (Pl.tmRd x_2).2 = Pl.eqK s ∧ True)
 (((1 : Int) = Int.ofNat ((1 : Nat)) ∧ (Pl.tmRd x_1).1.1 = ((Pl.tmRd (Pl.cutA s Pl.eqSgn)).1, (Pl.tmRd (Pl.cutR s Pl.eqSgn)).1, Pl.noT, Pl.noI, (0 : Int), false).1.1 ∧ Is (terms (Pl.tmRd x_1).1.2) (terms ((Pl.tmRd (Pl.cutA s Pl.eqSgn)).1, (Pl.tmRd (Pl.cutR s Pl.eqSgn)).1, Pl.noT, Pl.noI, (0 : Int), false).1.2) ∧ (Pl.tmRd x_2).1.1 = ((Pl.tmRd (Pl.cutR s Pl.eqSgn)).1, Pl.noT, Pl.noI, (0 : Int), false).1.1 ∧ Is (terms (Pl.tmRd x_2).1.2) (terms ((Pl.tmRd (Pl.cutR s Pl.eqSgn)).1, Pl.noT, Pl.noI, (0 : Int), false).1.2) ∧ Is (AV.lit (0 : Nat) (1 : Nat) fun (x x_3 : Nat) => AV.any) (terms []) ∧ Is (AV.lit (0 : Nat) (1 : Nat) fun (x x_3 : Nat) => AV.any) (ints []) ∧ (0 : Int) = Int.ofNat ((0 : Nat)) ∧ false = false ∧ True) ∧ false = Pl.eqK s ∧ True))
 (((1 : Int) = Int.ofNat ((1 : Nat)) ∧ (Pl.tmRd x_1).1.1 = ((Pl.tmRd (Pl.cutA s Pl.eqSgn)).1, (Pl.tmRd (Pl.cutR s Pl.eqSgn)).1, Pl.noT, Pl.noI, (0 : Int), false).1.1 ∧ Is (terms (Pl.tmRd x_1).1.2) (terms ((Pl.tmRd (Pl.cutA s Pl.eqSgn)).1, (Pl.tmRd (Pl.cutR s Pl.eqSgn)).1, Pl.noT, Pl.noI, (0 : Int), false).1.2) ∧ (Pl.tmRd x_2).1.1 = ((Pl.tmRd (Pl.cutR s Pl.eqSgn)).1, Pl.noT, Pl.noI, (0 : Int), false).1.1 ∧ Is (terms (Pl.tmRd x_2).1.2) (terms ((Pl.tmRd (Pl.cutR s Pl.eqSgn)).1, Pl.noT, Pl.noI, (0 : Int), false).1.2) ∧ Is (AV.lit (0 : Nat) (1 : Nat) fun (x x_3 : Nat) => AV.any) (terms []) ∧ Is (AV.lit (0 : Nat) (1 : Nat) fun (x x_3 : Nat) => AV.any) (ints []) ∧ (0 : Int) = Int.ofNat ((0 : Nat)) ∧ false = false ∧ True) ∧ false = Pl.eqK s ∧ True)) = Goal Tryz.prog [K_Cut, K_iTermRead] ([]) K_readEq.1 K_readEq.2 (s) := by kernel_rfl

theorem vc_readSum (s : ByteArray) : (∃ x : ByteArray × UInt8,
 (s = x.1 ∧ ByteArray.mk #[(32 : UInt8)] = Pl.mkB [x.2] ∧ True) ∧ x.1.size.le (4294967280 : Nat) ∧ ∃ x_1 : Int × Int × Int,
 (IntKind.i64.wrap (IntKind.i64.wrap ((↑(Pl.cut x.2 x.1).length : Int) - (1 : Int)) - (1 : Int)) = x_1.1 ∧ (1 : Int) = x_1.2.1 ∧ (4 : Int) = x_1.2.2 ∧ True) ∧ True ∧ condP (!Pl.withinI x_1.1 x_1.2.1 x_1.2.2)
 (((0 : Int) = (Pl.sumI s).1.1 ∧ ByteArray.mk #[] = (Pl.sumI s).1.2.1.1 ∧ Is (AV.lit (0 : Nat) (1 : Nat) fun (x x_2 : Nat) => AV.any) (terms (Pl.sumI s).1.2.1.2) ∧ ByteArray.mk #[] = (Pl.sumI s).1.2.2.1.1 ∧ Is (AV.lit (0 : Nat) (1 : Nat) fun (x x_2 : Nat) => AV.any) (terms (Pl.sumI s).1.2.2.1.2) ∧ Is (AV.lit (0 : Nat) (1 : Nat) fun (x x_2 : Nat) => AV.any) (terms (Pl.sumI s).1.2.2.2.1) ∧ Is (AV.lit (0 : Nat) (1 : Nat) fun (x x_2 : Nat) => AV.any) (ints (Pl.sumI s).1.2.2.2.2.1) ∧ (0 : Int) = (Pl.sumI s).1.2.2.2.2.2.1 ∧ false = (Pl.sumI s).1.2.2.2.2.2.2 ∧ True) ∧ false = (Pl.sumI s).2 ∧ True)
 (((0 : Int) ≤ IntKind.i64.wrap (IntKind.i64.wrap ((↑(Pl.cut x.2 x.1).length : Int) - (1 : Int)) - (1 : Int)) ∧ IntKind.i64.wrap (IntKind.i64.wrap ((↑(Pl.cut x.2 x.1).length : Int) - (1 : Int)) - (1 : Int)) < (↑(Pl.cut x.2 x.1).length : Int)) ∧ (IntKind.i64.wrap (IntKind.i64.wrap ((↑(Pl.cut x.2 x.1).length : Int) - (1 : Int)) - (1 : Int))).toNat < (Pl.cut x.2 x.1).length ∧ ((0 : Int) ≤ IntKind.i64.wrap ((↑(Pl.cut x.2 x.1).length : Int) - (1 : Int)) ∧ IntKind.i64.wrap ((↑(Pl.cut x.2 x.1).length : Int) - (1 : Int)) < (↑(Pl.cut x.2 x.1).length : Int)) ∧ (IntKind.i64.wrap ((↑(Pl.cut x.2 x.1).length : Int) - (1 : Int))).toNat < (Pl.cut x.2 x.1).length ∧ ∃ x_2 : ByteArray,
 ((Pl.cut x.2 x.1).getD (IntKind.i64.wrap ((↑(Pl.cut x.2 x.1).length : Int) - (1 : Int))).toNat ByteArray.empty = x_2 ∧ True) ∧ x_2.size.le (4294967280 : Nat) ∧ ((0 : Int) ≤ IntKind.i64.wrap (IntKind.i64.wrap ((↑(Pl.cut x.2 x.1).length : Int) - (1 : Int)) - (1 : Int)) ∧ IntKind.i64.wrap (IntKind.i64.wrap ((↑(Pl.cut x.2 x.1).length : Int) - (1 : Int)) - (1 : Int)) ≤ (↑(Pl.cut x.2 x.1).length : Int)) ∧ (∃ x_3 : Nat,
 (x_3 ≤ (Pl.cut (32 : UInt8) s).length - (2 : Nat) ∧ ((3 : Nat) ≤ (Pl.cut (32 : UInt8) s).length ∧ (Pl.cut (32 : UInt8) s).length ≤ (6 : Nat)) ∧ Pl.allI (List.take x_3 (Pl.cut (32 : UInt8) s)) = true) ∧ ((0 : Nat) = (0 : Nat) ∧ (0 : Nat) = (0 : Nat) ∧ Is
 (AV.sl (IntKind.i64.wrap (IntKind.i64.wrap ((↑(Pl.cut x.2 x.1).length : Int) - (1 : Int)) - (1 : Int))).toNat (1 : Nat)
 (cS (Pl.cut x.2 x.1)))
 (strs (List.take ((Pl.cut (32 : UInt8) s).length - (2 : Nat)) (Pl.cut (32 : UInt8) s))) ∧ (↑(IntKind.i64.wrap (IntKind.i64.wrap ((↑(Pl.cut x.2 x.1).length : Int) - (1 : Int)) - (1 : Int))).toNat : Int) =
 (↑((Pl.cut (32 : UInt8) s).length - (2 : Nat)) : Int) ∧ (0 : Int) = (↑x_3 : Int) ∧ True) ∧ ((0 : Int) = (0 : Int) ∧ ByteArray.mk #[] = ByteArray.empty ∧ Is (AV.lit (0 : Nat) (1 : Nat) fun (x x_4 : Nat) => AV.any) nilA ∧ ByteArray.mk #[] = ByteArray.empty ∧ Is (AV.lit (0 : Nat) (1 : Nat) fun (x x_4 : Nat) => AV.any) nilA ∧ Is (AV.lit (0 : Nat) (1 : Nat) fun (x x_4 : Nat) => AV.any) nilA ∧ Is (AV.lit (0 : Nat) (1 : Nat) fun (x x_4 : Nat) => AV.any) nilA ∧ (0 : Int) = (0 : Int) ∧ false = false ∧ True) ∧ ((2 : Int) = (2 : Int) ∧ ByteArray.mk #[] = ByteArray.empty ∧ Is (AV.lit (0 : Nat) (1 : Nat) fun (x x_4 : Nat) => AV.any) nilA ∧ ByteArray.mk #[] = ByteArray.empty ∧ Is (AV.lit (0 : Nat) (1 : Nat) fun (x x_4 : Nat) => AV.any) nilA ∧ ((0 : Nat) = (0 : Nat) ∧ (0 : Nat) = (0 : Nat) ∧ x_3 = (0 : Nat)) ∧ ((0 : Nat) = (0 : Nat) ∧ (0 : Nat) = (0 : Nat) ∧ x_3 = (0 : Nat)) ∧ Pl.atoi x_2 = Pl.atoi (Pl.pq (Pl.cut (32 : UInt8) s) ((Pl.cut (32 : UInt8) s).length - (1 : Nat))) ∧ (((Pl.cut x.2 x.1).getD (IntKind.i64.wrap (IntKind.i64.wrap ((↑(Pl.cut x.2 x.1).length : Int) - (1 : Int)) - (1 : Int))).toNat
 ByteArray.empty).toList ==
 (ByteArray.mk #[(60 : UInt8)]).toList) =
 decide (Pl.pq (Pl.cut (32 : UInt8) s) ((Pl.cut (32 : UInt8) s).length - (2 : Nat)) = Pl.mkB [(60 : UInt8)]) ∧ True) ∧ (Pl.numsI (List.take x_3 (Pl.cut (32 : UInt8) s))).length = (0 : Nat) ∧ (Pl.timesI (List.take x_3 (Pl.cut (32 : UInt8) s))).length = (0 : Nat) ∧ True) ∧ ∀ (x : Nat),
 x ≤ (Pl.cut (32 : UInt8) s).length - (2 : Nat) ∧ ((3 : Nat) ≤ (Pl.cut (32 : UInt8) s).length ∧ (Pl.cut (32 : UInt8) s).length ≤ (6 : Nat)) ∧ Pl.allI (List.take x (Pl.cut (32 : UInt8) s)) = true →
 condP (decide ((↑x : Int) < (↑((Pl.cut (32 : UInt8) s).length - (2 : Nat)) : Int)))
 (((0 : Int) ≤ (↑x : Int) ∧ (↑x : Int) < (↑(List.take ((Pl.cut (32 : UInt8) s).length - (2 : Nat)) (Pl.cut (32 : UInt8) s)).length : Int)) ∧ x < (List.take ((Pl.cut (32 : UInt8) s).length - (2 : Nat)) (Pl.cut (32 : UInt8) s)).length ∧ ∃ x_3 : ByteArray × ByteArray,
 ((List.take ((Pl.cut (32 : UInt8) s).length - (2 : Nat)) (Pl.cut (32 : UInt8) s)).getD x ByteArray.empty = x_3.1 ∧ ByteArray.mk #[(42 : UInt8)] = x_3.2 ∧ True) ∧ x_3.1.size.le (4294967280 : Nat) ∧ ∃ x_4 : ByteArray,
 (Pl.cutA x_3.1 x_3.2 = x_4 ∧ True) ∧ x_4.size.le (4294967280 : Nat) ∧ ∃ x_5 : ByteArray,
 (Pl.cutR x_3.1 x_3.2 = x_5 ∧ True) ∧ x_5.size.le (1048576 : Nat) ∧ condP (!(Pl.tmRd x_5).2)
 (((0 : Int) = (Pl.sumI s).1.1 ∧ ByteArray.mk #[] = (Pl.sumI s).1.2.1.1 ∧ Is (AV.lit (0 : Nat) (1 : Nat) fun (x x_6 : Nat) => AV.any) (terms (Pl.sumI s).1.2.1.2) ∧ ByteArray.mk #[] = (Pl.sumI s).1.2.2.1.1 ∧ Is (AV.lit (0 : Nat) (1 : Nat) fun (x x_6 : Nat) => AV.any) (terms (Pl.sumI s).1.2.2.1.2) ∧ Is (AV.lit (0 : Nat) (1 : Nat) fun (x x_6 : Nat) => AV.any) (terms (Pl.sumI s).1.2.2.2.1) ∧ Is (AV.lit (0 : Nat) (1 : Nat) fun (x x_6 : Nat) => AV.any) (ints (Pl.sumI s).1.2.2.2.2.1) ∧ (0 : Int) = (Pl.sumI s).1.2.2.2.2.2.1 ∧ false = (Pl.sumI s).1.2.2.2.2.2.2 ∧ True) ∧ false = (Pl.sumI s).2 ∧ True)
 ((0 : Nat) + x ≤ (Pl.numsI (List.take x (Pl.cut (32 : UInt8) s))).length ∧ (x + (1 : Nat)) * (40 : Nat) ≤ (70368744177664 : Nat) ∧ (0 : Nat) + x ≤ (Pl.timesI (List.take x (Pl.cut (32 : UInt8) s))).length ∧ (x + (1 : Nat)) * (8 : Nat) ≤ (70368744177664 : Nat) ∧ Exists fun (x' : Nat) =>
 (x' ≤ (Pl.cut (32 : UInt8) s).length - (2 : Nat) ∧ ((3 : Nat) ≤ (Pl.cut (32 : UInt8) s).length ∧ (Pl.cut (32 : UInt8) s).length ≤ (6 : Nat)) ∧ Pl.allI (List.take x' (Pl.cut (32 : UInt8) s)) = true) ∧ (Pl.cut (32 : UInt8) s).length - (2 : Nat) - x' < (Pl.cut (32 : UInt8) s).length - (2 : Nat) - x ∧ ((0 : Nat) = (0 : Nat) ∧ (0 : Nat) = (0 : Nat) ∧ Is (strs (List.take ((Pl.cut (32 : UInt8) s).length - (2 : Nat)) (Pl.cut (32 : UInt8) s)))
 (strs (List.take ((Pl.cut (32 : UInt8) s).length - (2 : Nat)) (Pl.cut (32 : UInt8) s))) ∧ (↑((Pl.cut (32 : UInt8) s).length - (2 : Nat)) : Int) = (↑((Pl.cut (32 : UInt8) s).length - (2 : Nat)) : Int) ∧ IntKind.i64.wrap ((↑x : Int) + (1 : Int)) = (↑x' : Int) ∧ True) ∧ ((0 : Int) = (0 : Int) ∧ ByteArray.empty = ByteArray.empty ∧ Is (AV.lit (0 : Nat) (1 : Nat) fun (x x_6 : Nat) => AV.any) nilA ∧ ByteArray.empty = ByteArray.empty ∧ Is (AV.lit (0 : Nat) (1 : Nat) fun (x x_6 : Nat) => AV.any) nilA ∧ Is (AV.lit (0 : Nat) (1 : Nat) fun (x x_6 : Nat) => AV.any) nilA ∧ Is (AV.lit (0 : Nat) (1 : Nat) fun (x x_6 : Nat) => AV.any) nilA ∧ (0 : Int) = (0 : Int) ∧ false = false ∧ True) ∧ ((2 : Int) = (2 : Int) ∧ ByteArray.empty = ByteArray.empty ∧ Is (AV.lit (0 : Nat) (1 : Nat) fun (x x_6 : Nat) => AV.any) nilA ∧ ByteArray.empty = ByteArray.empty ∧ Is (AV.lit (0 : Nat) (1 : Nat) fun (x x_6 : Nat) => AV.any) nilA ∧ ((0 : Nat) = (0 : Nat) ∧ x + (1 : Nat) = x') ∧ ((0 : Nat) = (0 : Nat) ∧ x + (1 : Nat) = x') ∧ Pl.atoi (Pl.pq (Pl.cut (32 : UInt8) s) ((Pl.cut (32 : UInt8) s).length - (1 : Nat))) =
 Pl.atoi (Pl.pq (Pl.cut (32 : UInt8) s) ((Pl.cut (32 : UInt8) s).length - (1 : Nat))) ∧ decide
 (Pl.pq (Pl.cut (32 : UInt8) s) ((Pl.cut (32 : UInt8) s).length - (2 : Nat)) =
 Pl.mkB [(60 : UInt8)]) =
 decide
 (Pl.pq (Pl.cut (32 : UInt8) s) ((Pl.cut (32 : UInt8) s).length - (2 : Nat)) =
 Pl.mkB [(60 : UInt8)]) ∧ True) ∧ IsO
 (AObj.arr (x + (1 : Nat)) (2 : Nat)
 (joinC x (cT (Pl.numsI (List.take x (Pl.cut (32 : UInt8) s))))
 (rowsCell [[st (Pl.tmRd x_5).1.1, terms (Pl.tmRd x_5).1.2]])))
 (arT (Pl.numsI (List.take x' (Pl.cut (32 : UInt8) s)))) ∧ IsO
 (AObj.arr (x + (1 : Nat)) (1 : Nat)
 (joinC x (cI (Pl.timesI (List.take x (Pl.cut (32 : UInt8) s)))) (rowsCell [[i64 (Pl.atoi x_4)]])))
 (arI (Pl.timesI (List.take x' (Pl.cut (32 : UInt8) s)))) ∧ True))
 ((0 : Nat) + x ≤ (Pl.numsI (List.take x (Pl.cut (32 : UInt8) s))).length ∧ (0 : Nat) + x ≤ (Pl.timesI (List.take x (Pl.cut (32 : UInt8) s))).length ∧ ((2 : Int) = (Pl.sumI s).1.1 ∧ ByteArray.empty = (Pl.sumI s).1.2.1.1 ∧ Is (AV.lit (0 : Nat) (1 : Nat) fun (x x_3 : Nat) => AV.any) (terms (Pl.sumI s).1.2.1.2) ∧ ByteArray.empty = (Pl.sumI s).1.2.2.1.1 ∧ Is (AV.lit (0 : Nat) (1 : Nat) fun (x x_3 : Nat) => AV.any) (terms (Pl.sumI s).1.2.2.1.2) ∧ Is (AV.sl x (2 : Nat) (cT (Pl.numsI (List.take x (Pl.cut (32 : UInt8) s))))) (terms (Pl.sumI s).1.2.2.2.1) ∧ Is (AV.sl x (1 : Nat) (cI (Pl.timesI (List.take x (Pl.cut (32 : UInt8) s))))) (ints (Pl.sumI s).1.2.2.2.2.1) ∧ Pl.atoi (Pl.pq (Pl.cut (32 : UInt8) s) ((Pl.cut (32 : UInt8) s).length - (1 : Nat))) = (Pl.sumI s).1.2.2.2.2.2.1 ∧ decide (Pl.pq (Pl.cut (32 : UInt8) s) ((Pl.cut (32 : UInt8) s).length - (2 : Nat)) = Pl.mkB [(60 : UInt8)]) =
 (Pl.sumI s).1.2.2.2.2.2.2 ∧ True) ∧ true = (Pl.sumI s).2 ∧ True))) = Goal Tryz.prog [K_Split, K_within, K_Atoi, K_Cut, K_iTermRead] (A_readSum s) K_readSum.1 K_readSum.2 (s) := by kernel_rfl

theorem vc_iAtomRead (s : ByteArray) : (∃ x : ByteArray,
 (s = x ∧ True) ∧ x.size.le (1048576 : Nat) ∧ condP (!Pl.eqK x)
 (∃ x : ByteArray,
 (s = x ∧ True) ∧ x.size.le (1048576 : Nat) ∧ condP (!(Pl.sumI x).2)
 (((0 : Int) = (Pl.atomReadI s).1.1 ∧ ByteArray.mk #[] = (Pl.atomReadI s).1.2.1.1 ∧ Is (AV.lit (0 : Nat) (1 : Nat) fun (x x_1 : Nat) => AV.any) (terms (Pl.atomReadI s).1.2.1.2) ∧ ByteArray.mk #[] = (Pl.atomReadI s).1.2.2.1.1 ∧ Is (AV.lit (0 : Nat) (1 : Nat) fun (x x_1 : Nat) => AV.any) (terms (Pl.atomReadI s).1.2.2.1.2) ∧ Is (AV.lit (0 : Nat) (1 : Nat) fun (x x_1 : Nat) => AV.any) (terms (Pl.atomReadI s).1.2.2.2.1) ∧ Is (AV.lit (0 : Nat) (1 : Nat) fun (x x_1 : Nat) => AV.any) (ints (Pl.atomReadI s).1.2.2.2.2.1) ∧ (0 : Int) = (Pl.atomReadI s).1.2.2.2.2.2.1 ∧ false = (Pl.atomReadI s).1.2.2.2.2.2.2 ∧ True) ∧ false = (Pl.atomReadI s).2 ∧ True)
 (∃ x_1 : Pl.Atm,
 (((Pl.sumI x).1.1 = x_1.1 ∧ (Pl.sumI x).1.2.1.1 = x_1.2.1.1 ∧ Is (terms (Pl.sumI x).1.2.1.2) (terms x_1.2.1.2) ∧ (Pl.sumI x).1.2.2.1.1 = x_1.2.2.1.1 ∧ Is (terms (Pl.sumI x).1.2.2.1.2) (terms x_1.2.2.1.2) ∧ Is (terms (Pl.sumI x).1.2.2.2.1) (terms x_1.2.2.2.1) ∧ Is (ints (Pl.sumI x).1.2.2.2.2.1) (ints x_1.2.2.2.2.1) ∧ (Pl.sumI x).1.2.2.2.2.2.1 = x_1.2.2.2.2.2.1 ∧ (Pl.sumI x).1.2.2.2.2.2.2 = x_1.2.2.2.2.2.2 ∧ True) ∧ True) ∧ SmA x_1 ∧ condP (!Pl.atomRight x_1)
 (((0 : Int) = (Pl.atomReadI s).1.1 ∧ ByteArray.mk #[] = (Pl.atomReadI s).1.2.1.1 ∧ Is (AV.lit (0 : Nat) (1 : Nat) fun (x x_2 : Nat) => AV.any) (terms (Pl.atomReadI s).1.2.1.2) ∧ ByteArray.mk #[] = (Pl.atomReadI s).1.2.2.1.1 ∧ Is (AV.lit (0 : Nat) (1 : Nat) fun (x x_2 : Nat) => AV.any) (terms (Pl.atomReadI s).1.2.2.1.2) ∧ Is (AV.lit (0 : Nat) (1 : Nat) fun (x x_2 : Nat) => AV.any) (terms (Pl.atomReadI s).1.2.2.2.1) ∧ Is (AV.lit (0 : Nat) (1 : Nat) fun (x x_2 : Nat) => AV.any) (ints (Pl.atomReadI s).1.2.2.2.2.1) ∧ (0 : Int) = (Pl.atomReadI s).1.2.2.2.2.2.1 ∧ false = (Pl.atomReadI s).1.2.2.2.2.2.2 ∧ True) ∧ false = (Pl.atomReadI s).2 ∧ True)
 (∃ x_2 : Pl.Atm,
 (((Pl.sumI x).1.1 = x_2.1 ∧ (Pl.sumI x).1.2.1.1 = x_2.2.1.1 ∧ Is (terms (Pl.sumI x).1.2.1.2) (terms x_2.2.1.2) ∧ (Pl.sumI x).1.2.2.1.1 = x_2.2.2.1.1 ∧ Is (terms (Pl.sumI x).1.2.2.1.2) (terms x_2.2.2.1.2) ∧ Is (terms (Pl.sumI x).1.2.2.2.1) (terms x_2.2.2.2.1) ∧ Is (ints (Pl.sumI x).1.2.2.2.2.1) (ints x_2.2.2.2.2.1) ∧ (Pl.sumI x).1.2.2.2.2.2.1 = x_2.2.2.2.2.2.1 ∧ (Pl.sumI x).1.2.2.2.2.2.2 = x_2.2.2.2.2.2.2 ∧ True) ∧ True) ∧ (SmA x_2 ∧ Pl.atomRight x_2 = true) ∧ condP (!(Pl.mkB (Pl.atomB x_2)).toList == s.toList)
 (((0 : Int) = (Pl.atomReadI s).1.1 ∧ ByteArray.mk #[] = (Pl.atomReadI s).1.2.1.1 ∧ Is (AV.lit (0 : Nat) (1 : Nat) fun (x x_3 : Nat) => AV.any) (terms (Pl.atomReadI s).1.2.1.2) ∧ ByteArray.mk #[] = (Pl.atomReadI s).1.2.2.1.1 ∧ Is (AV.lit (0 : Nat) (1 : Nat) fun (x x_3 : Nat) => AV.any) (terms (Pl.atomReadI s).1.2.2.1.2) ∧ Is (AV.lit (0 : Nat) (1 : Nat) fun (x x_3 : Nat) => AV.any) (terms (Pl.atomReadI s).1.2.2.2.1) ∧ Is (AV.lit (0 : Nat) (1 : Nat) fun (x x_3 : Nat) => AV.any) (ints (Pl.atomReadI s).1.2.2.2.2.1) ∧ (0 : Int) = (Pl.atomReadI s).1.2.2.2.2.2.1 ∧ false = (Pl.atomReadI s).1.2.2.2.2.2.2 ∧ True) ∧ false = (Pl.atomReadI s).2 ∧ True)
 (((Pl.sumI x).1.1 = (Pl.atomReadI s).1.1 ∧ (Pl.sumI x).1.2.1.1 = (Pl.atomReadI s).1.2.1.1 ∧ Is (terms (Pl.sumI x).1.2.1.2) (terms (Pl.atomReadI s).1.2.1.2) ∧ (Pl.sumI x).1.2.2.1.1 = (Pl.atomReadI s).1.2.2.1.1 ∧ Is (terms (Pl.sumI x).1.2.2.1.2) (terms (Pl.atomReadI s).1.2.2.1.2) ∧ Is (terms (Pl.sumI x).1.2.2.2.1) (terms (Pl.atomReadI s).1.2.2.2.1) ∧ Is (ints (Pl.sumI x).1.2.2.2.2.1) (ints (Pl.atomReadI s).1.2.2.2.2.1) ∧ (Pl.sumI x).1.2.2.2.2.2.1 = (Pl.atomReadI s).1.2.2.2.2.2.1 ∧ (Pl.sumI x).1.2.2.2.2.2.2 = (Pl.atomReadI s).1.2.2.2.2.2.2 ∧ True) ∧ true = (Pl.atomReadI s).2 ∧ True))))
 (condP (!Pl.eqK x)
 (((0 : Int) = (Pl.atomReadI s).1.1 ∧ ByteArray.mk #[] = (Pl.atomReadI s).1.2.1.1 ∧ Is (AV.lit (0 : Nat) (1 : Nat) fun (x x_1 : Nat) => AV.any) (terms (Pl.atomReadI s).1.2.1.2) ∧ ByteArray.mk #[] = (Pl.atomReadI s).1.2.2.1.1 ∧ Is (AV.lit (0 : Nat) (1 : Nat) fun (x x_1 : Nat) => AV.any) (terms (Pl.atomReadI s).1.2.2.1.2) ∧ Is (AV.lit (0 : Nat) (1 : Nat) fun (x x_1 : Nat) => AV.any) (terms (Pl.atomReadI s).1.2.2.2.1) ∧ Is (AV.lit (0 : Nat) (1 : Nat) fun (x x_1 : Nat) => AV.any) (ints (Pl.atomReadI s).1.2.2.2.2.1) ∧ (0 : Int) = (Pl.atomReadI s).1.2.2.2.2.2.1 ∧ false = (Pl.atomReadI s).1.2.2.2.2.2.2 ∧ True) ∧ false = (Pl.atomReadI s).2 ∧ True)
 (∃ x_1 : Pl.Atm,
 ((Int.ofNat ((1 : Nat)) = x_1.1 ∧ ((Pl.tmRd (Pl.cutA x Pl.eqSgn)).1, (Pl.tmRd (Pl.cutR x Pl.eqSgn)).1, Pl.noT, Pl.noI, (0 : Int), false).1.1 = x_1.2.1.1 ∧ Is (terms ((Pl.tmRd (Pl.cutA x Pl.eqSgn)).1, (Pl.tmRd (Pl.cutR x Pl.eqSgn)).1, Pl.noT, Pl.noI, (0 : Int), false).1.2) (terms x_1.2.1.2) ∧ ((Pl.tmRd (Pl.cutR x Pl.eqSgn)).1, Pl.noT, Pl.noI, (0 : Int), false).1.1 = x_1.2.2.1.1 ∧ Is (terms ((Pl.tmRd (Pl.cutR x Pl.eqSgn)).1, Pl.noT, Pl.noI, (0 : Int), false).1.2) (terms x_1.2.2.1.2) ∧ Is (AV.sl ((0 : Nat)) (2 : Nat) fun (i j : Nat) => eT (Pl.Tree.mk ByteArray.empty []) j) (terms x_1.2.2.2.1) ∧ Is (AV.sl ((0 : Nat)) (1 : Nat) fun (i j : Nat) => i64 (Int.ofNat ((0 : Nat)))) (ints x_1.2.2.2.2.1) ∧ Int.ofNat ((0 : Nat)) = x_1.2.2.2.2.2.1 ∧ false = x_1.2.2.2.2.2.2 ∧ True) ∧ True) ∧ SmA x_1 ∧ condP (!Pl.atomRight x_1)
 (((0 : Int) = (Pl.atomReadI s).1.1 ∧ ByteArray.mk #[] = (Pl.atomReadI s).1.2.1.1 ∧ Is (AV.lit (0 : Nat) (1 : Nat) fun (x x_2 : Nat) => AV.any) (terms (Pl.atomReadI s).1.2.1.2) ∧ ByteArray.mk #[] = (Pl.atomReadI s).1.2.2.1.1 ∧ Is (AV.lit (0 : Nat) (1 : Nat) fun (x x_2 : Nat) => AV.any) (terms (Pl.atomReadI s).1.2.2.1.2) ∧ Is (AV.lit (0 : Nat) (1 : Nat) fun (x x_2 : Nat) => AV.any) (terms (Pl.atomReadI s).1.2.2.2.1) ∧ Is (AV.lit (0 : Nat) (1 : Nat) fun (x x_2 : Nat) => AV.any) (ints (Pl.atomReadI s).1.2.2.2.2.1) ∧ (0 : Int) = (Pl.atomReadI s).1.2.2.2.2.2.1 ∧ false = (Pl.atomReadI s).1.2.2.2.2.2.2 ∧ True) ∧ false = (Pl.atomReadI s).2 ∧ True)
 (∃ x_2 : Pl.Atm,
 ((Int.ofNat ((1 : Nat)) = x_2.1 ∧ ((Pl.tmRd (Pl.cutA x Pl.eqSgn)).1, (Pl.tmRd (Pl.cutR x Pl.eqSgn)).1, Pl.noT, Pl.noI, (0 : Int), false).1.1 = x_2.2.1.1 ∧ Is (terms ((Pl.tmRd (Pl.cutA x Pl.eqSgn)).1, (Pl.tmRd (Pl.cutR x Pl.eqSgn)).1, Pl.noT, Pl.noI, (0 : Int), false).1.2) (terms x_2.2.1.2) ∧ ((Pl.tmRd (Pl.cutR x Pl.eqSgn)).1, Pl.noT, Pl.noI, (0 : Int), false).1.1 = x_2.2.2.1.1 ∧ Is (terms ((Pl.tmRd (Pl.cutR x Pl.eqSgn)).1, Pl.noT, Pl.noI, (0 : Int), false).1.2) (terms x_2.2.2.1.2) ∧ Is (AV.sl ((0 : Nat)) (2 : Nat) fun (i j : Nat) => eT (Pl.Tree.mk ByteArray.empty []) j) (terms x_2.2.2.2.1) ∧ Is (AV.sl ((0 : Nat)) (1 : Nat) fun (i j : Nat) => i64 (Int.ofNat ((0 : Nat)))) (ints x_2.2.2.2.2.1) ∧ Int.ofNat ((0 : Nat)) = x_2.2.2.2.2.2.1 ∧ false = x_2.2.2.2.2.2.2 ∧ True) ∧ True) ∧ (SmA x_2 ∧ Pl.atomRight x_2 = true) ∧ condP (!(Pl.mkB (Pl.atomB x_2)).toList == s.toList)
 (((0 : Int) = (Pl.atomReadI s).1.1 ∧ ByteArray.mk #[] = (Pl.atomReadI s).1.2.1.1 ∧ Is (AV.lit (0 : Nat) (1 : Nat) fun (x x_3 : Nat) => AV.any) (terms (Pl.atomReadI s).1.2.1.2) ∧ ByteArray.mk #[] = (Pl.atomReadI s).1.2.2.1.1 ∧ Is (AV.lit (0 : Nat) (1 : Nat) fun (x x_3 : Nat) => AV.any) (terms (Pl.atomReadI s).1.2.2.1.2) ∧ Is (AV.lit (0 : Nat) (1 : Nat) fun (x x_3 : Nat) => AV.any) (terms (Pl.atomReadI s).1.2.2.2.1) ∧ Is (AV.lit (0 : Nat) (1 : Nat) fun (x x_3 : Nat) => AV.any) (ints (Pl.atomReadI s).1.2.2.2.2.1) ∧ (0 : Int) = (Pl.atomReadI s).1.2.2.2.2.2.1 ∧ false = (Pl.atomReadI s).1.2.2.2.2.2.2 ∧ True) ∧ false = (Pl.atomReadI s).2 ∧ True)
 ((Int.ofNat ((1 : Nat)) = (Pl.atomReadI s).1.1 ∧ ((Pl.tmRd (Pl.cutA x Pl.eqSgn)).1, (Pl.tmRd (Pl.cutR x Pl.eqSgn)).1, Pl.noT, Pl.noI, (0 : Int), false).1.1 = (Pl.atomReadI s).1.2.1.1 ∧ Is (terms ((Pl.tmRd (Pl.cutA x Pl.eqSgn)).1, (Pl.tmRd (Pl.cutR x Pl.eqSgn)).1, Pl.noT, Pl.noI, (0 : Int), false).1.2)
 (terms (Pl.atomReadI s).1.2.1.2) ∧ ((Pl.tmRd (Pl.cutR x Pl.eqSgn)).1, Pl.noT, Pl.noI, (0 : Int), false).1.1 = (Pl.atomReadI s).1.2.2.1.1 ∧ Is (terms ((Pl.tmRd (Pl.cutR x Pl.eqSgn)).1, Pl.noT, Pl.noI, (0 : Int), false).1.2) (terms (Pl.atomReadI s).1.2.2.1.2) ∧ Is (AV.sl ((0 : Nat)) (2 : Nat) fun (i j : Nat) => eT (Pl.Tree.mk ByteArray.empty []) j) (terms (Pl.atomReadI s).1.2.2.2.1) ∧ Is (AV.sl ((0 : Nat)) (1 : Nat) fun (i j : Nat) => i64 (Int.ofNat ((0 : Nat)))) (ints (Pl.atomReadI s).1.2.2.2.2.1) ∧ Int.ofNat ((0 : Nat)) = (Pl.atomReadI s).1.2.2.2.2.2.1 ∧ false = (Pl.atomReadI s).1.2.2.2.2.2.2 ∧ True) ∧ true = (Pl.atomReadI s).2 ∧ True))))) = Goal Tryz.prog [K_readEq, K_readSum, K_Atomok, K_atomText] ([]) K_iAtomRead.1 K_iAtomRead.2 (s) := by kernel_rfl

theorem vc_iLitRead (s : ByteArray) : (∃ x : ByteArray × ByteArray,
 (s = x.1 ∧ ByteArray.mk #[(110 : UInt8), (111 : UInt8), (116 : UInt8), (32 : UInt8)] = x.2 ∧ True) ∧ x.1.size.le (4294967280 : Nat) ∧ ∃ x_1 : ByteArray,
 (Pl.mkB (Lib.trimPrefix (Pl.bl' x.1) (Pl.bl' x.2)) = x_1 ∧ True) ∧ x_1.size.le (1048576 : Nat) ∧ condP (!(Pl.atomReadI x_1).2)
 (((0 : Int) = (Pl.litReadI s).1.1.1 ∧ ByteArray.mk #[] = (Pl.litReadI s).1.1.2.1.1 ∧ Is (AV.lit (0 : Nat) (1 : Nat) fun (x x_2 : Nat) => AV.any) (terms (Pl.litReadI s).1.1.2.1.2) ∧ ByteArray.mk #[] = (Pl.litReadI s).1.1.2.2.1.1 ∧ Is (AV.lit (0 : Nat) (1 : Nat) fun (x x_2 : Nat) => AV.any) (terms (Pl.litReadI s).1.1.2.2.1.2) ∧ Is (AV.lit (0 : Nat) (1 : Nat) fun (x x_2 : Nat) => AV.any) (terms (Pl.litReadI s).1.1.2.2.2.1) ∧ Is (AV.lit (0 : Nat) (1 : Nat) fun (x x_2 : Nat) => AV.any) (ints (Pl.litReadI s).1.1.2.2.2.2.1) ∧ (0 : Int) = (Pl.litReadI s).1.1.2.2.2.2.2.1 ∧ false = (Pl.litReadI s).1.1.2.2.2.2.2.2 ∧ false = (Pl.litReadI s).1.2 ∧ True) ∧ false = (Pl.litReadI s).2 ∧ True)
 (((Pl.atomReadI x_1).1.1 = (Pl.litReadI s).1.1.1 ∧ (Pl.atomReadI x_1).1.2.1.1 = (Pl.litReadI s).1.1.2.1.1 ∧ Is (terms (Pl.atomReadI x_1).1.2.1.2) (terms (Pl.litReadI s).1.1.2.1.2) ∧ (Pl.atomReadI x_1).1.2.2.1.1 = (Pl.litReadI s).1.1.2.2.1.1 ∧ Is (terms (Pl.atomReadI x_1).1.2.2.1.2) (terms (Pl.litReadI s).1.1.2.2.1.2) ∧ Is (terms (Pl.atomReadI x_1).1.2.2.2.1) (terms (Pl.litReadI s).1.1.2.2.2.1) ∧ Is (ints (Pl.atomReadI x_1).1.2.2.2.2.1) (ints (Pl.litReadI s).1.1.2.2.2.2.1) ∧ (Pl.atomReadI x_1).1.2.2.2.2.2.1 = (Pl.litReadI s).1.1.2.2.2.2.2.1 ∧ (Pl.atomReadI x_1).1.2.2.2.2.2.2 = (Pl.litReadI s).1.1.2.2.2.2.2.2 ∧ Lib.hasPrefix (Pl.bl' x.1) (Pl.bl' x.2) = (Pl.litReadI s).1.2 ∧ True) ∧ true = (Pl.litReadI s).2 ∧ True)) = Goal Tryz.prog [K_CutPrefix, K_iAtomRead] ([]) K_iLitRead.1 K_iLitRead.2 (s) := by kernel_rfl

theorem vc_sLitRead (s : ByteArray) : (condP (decide ((↑s.size : Int) > (4 : Int)))
 (((0 : Int) ≤ (4 : Int) ∧ (4 : Int) ≤ (↑s.size : Int)) ∧ condP ((s.extract (0 : Nat) (4 : Nat)).toList == (ByteArray.mk #[(110 : UInt8), (111 : UInt8), (116 : UInt8), (32 : UInt8)]).toList)
 (((0 : Int) ≤ (4 : Int) ∧ (4 : Int) ≤ (↑s.size : Int)) ∧ ∃ x : ByteArray,
 (s.extract (4 : Nat) s.size = x ∧ True) ∧ x.size.le (1048576 : Nat) ∧ condP (!(Pl.atomReadS x).2)
 (((0 : Int) = (Pl.litReadS s).1.1.1 ∧ ByteArray.mk #[] = (Pl.litReadS s).1.1.2.1.1 ∧ Is (AV.lit (0 : Nat) (1 : Nat) fun (x x_1 : Nat) => AV.any) (terms (Pl.litReadS s).1.1.2.1.2) ∧ ByteArray.mk #[] = (Pl.litReadS s).1.1.2.2.1.1 ∧ Is (AV.lit (0 : Nat) (1 : Nat) fun (x x_1 : Nat) => AV.any) (terms (Pl.litReadS s).1.1.2.2.1.2) ∧ Is (AV.lit (0 : Nat) (1 : Nat) fun (x x_1 : Nat) => AV.any) (terms (Pl.litReadS s).1.1.2.2.2.1) ∧ Is (AV.lit (0 : Nat) (1 : Nat) fun (x x_1 : Nat) => AV.any) (ints (Pl.litReadS s).1.1.2.2.2.2.1) ∧ (0 : Int) = (Pl.litReadS s).1.1.2.2.2.2.2.1 ∧ false = (Pl.litReadS s).1.1.2.2.2.2.2.2 ∧ false = (Pl.litReadS s).1.2 ∧ True) ∧ false = (Pl.litReadS s).2 ∧ True)
 (((Pl.atomReadS x).1.1 = (Pl.litReadS s).1.1.1 ∧ (Pl.atomReadS x).1.2.1.1 = (Pl.litReadS s).1.1.2.1.1 ∧ Is (terms (Pl.atomReadS x).1.2.1.2) (terms (Pl.litReadS s).1.1.2.1.2) ∧ (Pl.atomReadS x).1.2.2.1.1 = (Pl.litReadS s).1.1.2.2.1.1 ∧ Is (terms (Pl.atomReadS x).1.2.2.1.2) (terms (Pl.litReadS s).1.1.2.2.1.2) ∧ Is (terms (Pl.atomReadS x).1.2.2.2.1) (terms (Pl.litReadS s).1.1.2.2.2.1) ∧ Is (ints (Pl.atomReadS x).1.2.2.2.2.1) (ints (Pl.litReadS s).1.1.2.2.2.2.1) ∧ (Pl.atomReadS x).1.2.2.2.2.2.1 = (Pl.litReadS s).1.1.2.2.2.2.2.1 ∧ (Pl.atomReadS x).1.2.2.2.2.2.2 = (Pl.litReadS s).1.1.2.2.2.2.2.2 ∧ true = (Pl.litReadS s).1.2 ∧ True) ∧ true = (Pl.litReadS s).2 ∧ True))
 (∃ x : ByteArray,
 (s = x ∧ True) ∧ x.size.le (1048576 : Nat) ∧ condP (!(Pl.atomReadS x).2)
 (((0 : Int) = (Pl.litReadS s).1.1.1 ∧ ByteArray.mk #[] = (Pl.litReadS s).1.1.2.1.1 ∧ Is (AV.lit (0 : Nat) (1 : Nat) fun (x x_1 : Nat) => AV.any) (terms (Pl.litReadS s).1.1.2.1.2) ∧ ByteArray.mk #[] = (Pl.litReadS s).1.1.2.2.1.1 ∧ Is (AV.lit (0 : Nat) (1 : Nat) fun (x x_1 : Nat) => AV.any) (terms (Pl.litReadS s).1.1.2.2.1.2) ∧ Is (AV.lit (0 : Nat) (1 : Nat) fun (x x_1 : Nat) => AV.any) (terms (Pl.litReadS s).1.1.2.2.2.1) ∧ Is (AV.lit (0 : Nat) (1 : Nat) fun (x x_1 : Nat) => AV.any) (ints (Pl.litReadS s).1.1.2.2.2.2.1) ∧ (0 : Int) = (Pl.litReadS s).1.1.2.2.2.2.2.1 ∧ false = (Pl.litReadS s).1.1.2.2.2.2.2.2 ∧ false = (Pl.litReadS s).1.2 ∧ True) ∧ false = (Pl.litReadS s).2 ∧ True)
 (((Pl.atomReadS x).1.1 = (Pl.litReadS s).1.1.1 ∧ (Pl.atomReadS x).1.2.1.1 = (Pl.litReadS s).1.1.2.1.1 ∧ Is (terms (Pl.atomReadS x).1.2.1.2) (terms (Pl.litReadS s).1.1.2.1.2) ∧ (Pl.atomReadS x).1.2.2.1.1 = (Pl.litReadS s).1.1.2.2.1.1 ∧ Is (terms (Pl.atomReadS x).1.2.2.1.2) (terms (Pl.litReadS s).1.1.2.2.1.2) ∧ Is (terms (Pl.atomReadS x).1.2.2.2.1) (terms (Pl.litReadS s).1.1.2.2.2.1) ∧ Is (ints (Pl.atomReadS x).1.2.2.2.2.1) (ints (Pl.litReadS s).1.1.2.2.2.2.1) ∧ (Pl.atomReadS x).1.2.2.2.2.2.1 = (Pl.litReadS s).1.1.2.2.2.2.2.1 ∧ (Pl.atomReadS x).1.2.2.2.2.2.2 = (Pl.litReadS s).1.1.2.2.2.2.2.2 ∧ false = (Pl.litReadS s).1.2 ∧ True) ∧ true = (Pl.litReadS s).2 ∧ True)))
 (∃ x : ByteArray,
 (s = x ∧ True) ∧ x.size.le (1048576 : Nat) ∧ condP (!(Pl.atomReadS x).2)
 (((0 : Int) = (Pl.litReadS s).1.1.1 ∧ ByteArray.mk #[] = (Pl.litReadS s).1.1.2.1.1 ∧ Is (AV.lit (0 : Nat) (1 : Nat) fun (x x_1 : Nat) => AV.any) (terms (Pl.litReadS s).1.1.2.1.2) ∧ ByteArray.mk #[] = (Pl.litReadS s).1.1.2.2.1.1 ∧ Is (AV.lit (0 : Nat) (1 : Nat) fun (x x_1 : Nat) => AV.any) (terms (Pl.litReadS s).1.1.2.2.1.2) ∧ Is (AV.lit (0 : Nat) (1 : Nat) fun (x x_1 : Nat) => AV.any) (terms (Pl.litReadS s).1.1.2.2.2.1) ∧ Is (AV.lit (0 : Nat) (1 : Nat) fun (x x_1 : Nat) => AV.any) (ints (Pl.litReadS s).1.1.2.2.2.2.1) ∧ (0 : Int) = (Pl.litReadS s).1.1.2.2.2.2.2.1 ∧ false = (Pl.litReadS s).1.1.2.2.2.2.2.2 ∧ false = (Pl.litReadS s).1.2 ∧ True) ∧ false = (Pl.litReadS s).2 ∧ True)
 (((Pl.atomReadS x).1.1 = (Pl.litReadS s).1.1.1 ∧ (Pl.atomReadS x).1.2.1.1 = (Pl.litReadS s).1.1.2.1.1 ∧ Is (terms (Pl.atomReadS x).1.2.1.2) (terms (Pl.litReadS s).1.1.2.1.2) ∧ (Pl.atomReadS x).1.2.2.1.1 = (Pl.litReadS s).1.1.2.2.1.1 ∧ Is (terms (Pl.atomReadS x).1.2.2.1.2) (terms (Pl.litReadS s).1.1.2.2.1.2) ∧ Is (terms (Pl.atomReadS x).1.2.2.2.1) (terms (Pl.litReadS s).1.1.2.2.2.1) ∧ Is (ints (Pl.atomReadS x).1.2.2.2.2.1) (ints (Pl.litReadS s).1.1.2.2.2.2.1) ∧ (Pl.atomReadS x).1.2.2.2.2.2.1 = (Pl.litReadS s).1.1.2.2.2.2.2.1 ∧ (Pl.atomReadS x).1.2.2.2.2.2.2 = (Pl.litReadS s).1.1.2.2.2.2.2.2 ∧ false = (Pl.litReadS s).1.2 ∧ True) ∧ true = (Pl.litReadS s).2 ∧ True))) = Goal Tryz.prog [K_sAtomRead] ([]) K_sLitRead.1 K_sLitRead.2 (s) := by kernel_rfl

end Cg

/-
  What is left to show of each function's code, printed by a program: Rdr. No condition.
-/
set_option maxRecDepth 100000
set_option linter.unusedVariables false
namespace Cg
open Go Go.Proofs
theorem vc_l16Cut (s : ByteArray) (c : UInt8) : ((∃ x : Nat × Nat × List ByteArray,
 (x.2.1 ≤ x.1 ∧ x.2.2.length ≤ x.2.1 ∧ x.1 ≤ s.size + (1 : Nat) ∧ (∀ (k : Nat), x.2.1 ≤ k → k < x.1 → k < s.size → (Pl.bl' s).getD k (0 : UInt8) ≠ c) ∧ (x.1 ≤ s.size → x.2.1 ≤ s.size ∧ Pl.cut c s = x.2.2 ++ List.map Pl.mkB (Pl.cutL c (List.drop x.2.1 (Pl.bl' s)))) ∧ (s.size < x.1 → x.2.2 = Pl.cut c s)) ∧ (s = s ∧ (↑c.toNat : Int) = (↑c.toNat : Int) ∧ ((0 : Nat) = (0 : Nat) ∧ (0 : Nat) = (0 : Nat) ∧ x.2.2.length = (0 : Nat)) ∧ (0 : Int) = (↑x.2.1 : Int) ∧ (0 : Int) = (↑x.1 : Int) ∧ True) ∧ x.2.2.length = (0 : Nat) ∧ True) ∧ ∀ (x : Nat × Nat × List ByteArray),
 x.2.1 ≤ x.1 ∧ x.2.2.length ≤ x.2.1 ∧ x.1 ≤ s.size + (1 : Nat) ∧ (∀ (k : Nat), x.2.1 ≤ k → k < x.1 → k < s.size → (Pl.bl' s).getD k (0 : UInt8) ≠ c) ∧ (x.1 ≤ s.size → x.2.1 ≤ s.size ∧ Pl.cut c s = x.2.2 ++ List.map Pl.mkB (Pl.cutL c (List.drop x.2.1 (Pl.bl' s)))) ∧ (s.size < x.1 → x.2.2 = Pl.cut c s) →
 condP (decide ((↑x.1 : Int) ≤ (↑s.size : Int)))
 (condP ((↑x.1 : Int) == (↑s.size : Int))
 (((0 : Int) ≤ (↑x.2.1 : Int) ∧ (↑x.2.1 : Int) ≤ (↑x.1 : Int) ∧ (↑x.1 : Int) ≤ (↑s.size : Int)) ∧ (0 : Nat) + x.2.2.length ≤ x.2.2.length ∧ (x.2.2.length + (1 : Nat)) * (16 : Nat) ≤ (70368744177664 : Nat) ∧ Exists fun (x' : Nat × Nat × List ByteArray) =>
 (x'.2.1 ≤ x'.1 ∧ x'.2.2.length ≤ x'.2.1 ∧ x'.1 ≤ s.size + (1 : Nat) ∧ (∀ (k : Nat), x'.2.1 ≤ k → k < x'.1 → k < s.size → (Pl.bl' s).getD k (0 : UInt8) ≠ c) ∧ (x'.1 ≤ s.size → x'.2.1 ≤ s.size ∧ Pl.cut c s = x'.2.2 ++ List.map Pl.mkB (Pl.cutL c (List.drop x'.2.1 (Pl.bl' s)))) ∧ (s.size < x'.1 → x'.2.2 = Pl.cut c s)) ∧ s.size + (1 : Nat) - x'.1 < s.size + (1 : Nat) - x.1 ∧ (s = s ∧ (↑c.toNat : Int) = (↑c.toNat : Int) ∧ ((0 : Nat) = (0 : Nat) ∧ x.2.2.length + (1 : Nat) = x'.2.2.length) ∧ IntKind.i64.wrap ((↑x.1 : Int) + (1 : Int)) = (↑x'.2.1 : Int) ∧ IntKind.i64.wrap ((↑x.1 : Int) + (1 : Int)) = (↑x'.1 : Int) ∧ True) ∧ IsO (AObj.arr (x.2.2.length + (1 : Nat)) (1 : Nat) (joinC x.2.2.length (cS x.2.2) (rowsCell [[st (s.extract x.2.1 x.1)]])))
 (arS x'.2.2) ∧ True)
 (((0 : Int) ≤ (↑x.1 : Int) ∧ (↑x.1 : Int) < (↑s.size : Int)) ∧ condP ((↑(s.data.getD x.1 (0 : UInt8)).toNat : Int) == (↑c.toNat : Int))
 (((0 : Int) ≤ (↑x.2.1 : Int) ∧ (↑x.2.1 : Int) ≤ (↑x.1 : Int) ∧ (↑x.1 : Int) ≤ (↑s.size : Int)) ∧ (0 : Nat) + x.2.2.length ≤ x.2.2.length ∧ (x.2.2.length + (1 : Nat)) * (16 : Nat) ≤ (70368744177664 : Nat) ∧ Exists fun (x' : Nat × Nat × List ByteArray) =>
 (x'.2.1 ≤ x'.1 ∧ x'.2.2.length ≤ x'.2.1 ∧ x'.1 ≤ s.size + (1 : Nat) ∧ (∀ (k : Nat), x'.2.1 ≤ k → k < x'.1 → k < s.size → (Pl.bl' s).getD k (0 : UInt8) ≠ c) ∧ (x'.1 ≤ s.size → x'.2.1 ≤ s.size ∧ Pl.cut c s = x'.2.2 ++ List.map Pl.mkB (Pl.cutL c (List.drop x'.2.1 (Pl.bl' s)))) ∧ (s.size < x'.1 → x'.2.2 = Pl.cut c s)) ∧ s.size + (1 : Nat) - x'.1 < s.size + (1 : Nat) - x.1 ∧ (s = s ∧ (↑c.toNat : Int) = (↑c.toNat : Int) ∧ ((0 : Nat) = (0 : Nat) ∧ x.2.2.length + (1 : Nat) = x'.2.2.length) ∧ IntKind.i64.wrap ((↑x.1 : Int) + (1 : Int)) = (↑x'.2.1 : Int) ∧ IntKind.i64.wrap ((↑x.1 : Int) + (1 : Int)) = (↑x'.1 : Int) ∧ True) ∧ IsO (AObj.arr (x.2.2.length + (1 : Nat)) (1 : Nat) (joinC x.2.2.length (cS x.2.2) (rowsCell [[st (s.extract x.2.1 x.1)]])))
 (arS x'.2.2) ∧ True)
 (Exists fun (x' : Nat × Nat × List ByteArray) =>
 (x'.2.1 ≤ x'.1 ∧ x'.2.2.length ≤ x'.2.1 ∧ x'.1 ≤ s.size + (1 : Nat) ∧ (∀ (k : Nat), x'.2.1 ≤ k → k < x'.1 → k < s.size → (Pl.bl' s).getD k (0 : UInt8) ≠ c) ∧ (x'.1 ≤ s.size → x'.2.1 ≤ s.size ∧ Pl.cut c s = x'.2.2 ++ List.map Pl.mkB (Pl.cutL c (List.drop x'.2.1 (Pl.bl' s)))) ∧ (s.size < x'.1 → x'.2.2 = Pl.cut c s)) ∧ s.size + (1 : Nat) - x'.1 < s.size + (1 : Nat) - x.1 ∧ (s = s ∧ (↑c.toNat : Int) = (↑c.toNat : Int) ∧ ((0 : Nat) = (0 : Nat) ∧ x.2.2.length = x'.2.2.length) ∧ (↑x.2.1 : Int) = (↑x'.2.1 : Int) ∧ IntKind.i64.wrap ((↑x.1 : Int) + (1 : Int)) = (↑x'.1 : Int) ∧ True) ∧ IsO (arS x.2.2) (arS x'.2.2) ∧ True)))
 ((0 : Nat) + x.2.2.length ≤ x.2.2.length ∧ Is (strs x.2.2) (strs (Pl.cut c s)))) = Goal Tryz.prog [] (A_l16Cut s c) K_l16Cut.1 K_l16Cut.2 ((s, c)) := by kernel_rfl

theorem vc_l16Num (s : ByteArray) : (condP (decide ((↑s.size : Int) > (0 : Int)))
 (((0 : Int) ≤ (0 : Int) ∧ (0 : Int) < (↑s.size : Int)) ∧ condP ((↑(s.data.getD (0 : Nat) (0 : UInt8)).toNat : Int) == (45 : Int))
 (((0 : Int) ≤ (1 : Int) ∧ (1 : Int) ≤ (↑s.size : Int)) ∧ condP ((↑(s.extract (1 : Nat) s.size).size : Int) == (0 : Int)) ((0 : Int) = (Pl.num s).1 ∧ false = (Pl.num s).2 ∧ True)
 (condP (decide ((↑(s.extract (1 : Nat) s.size).size : Int) > (17 : Int))) ((0 : Int) = (Pl.num s).1 ∧ false = (Pl.num s).2 ∧ True)
 (((0 : Int) ≤ (0 : Int) ∧ (0 : Int) < (↑(s.extract (1 : Nat) s.size).size : Int)) ∧ condP ((↑((s.extract (1 : Nat) s.size).data.getD (0 : Nat) (0 : UInt8)).toNat : Int) == (48 : Int))
 (condP (decide ((↑(s.extract (1 : Nat) s.size).size : Int) > (1 : Int))) ((0 : Int) = (Pl.num s).1 ∧ false = (Pl.num s).2 ∧ True)
 (condP ((↑(s.data.getD (0 : Nat) (0 : UInt8)).toNat : Int) == (45 : Int)) ((0 : Int) = (Pl.num s).1 ∧ false = (Pl.num s).2 ∧ True)
 ((∃ x : Nat × Bool × List UInt8,
 (x.1 ≤ x.2.2.length ∧ x.2.2.length ≤ (17 : Nat) ∧ Pl.num s = Pl.numD x.2.1 x.2.2 ∧ ¬(x.2.2.length = (0 : Nat) ∨
 (17 : Nat) < x.2.2.length ∨ x.2.2.getD (0 : Nat) (0 : UInt8) = (48 : UInt8) ∧ ((1 : Nat) < x.2.2.length ∨ x.2.1 = true)) ∧ (List.take x.1 x.2.2).all Pl.isDig = true) ∧ (s.extract (1 : Nat) s.size = Pl.mkB x.2.2 ∧ ((↑(s.data.getD (0 : Nat) (0 : UInt8)).toNat : Int) == (45 : Int)) = x.2.1 ∧ (0 : Int) = (↑(Pl.vl (List.take x.1 x.2.2)) : Int) ∧ (0 : Int) = (↑x.1 : Int) ∧ True) ∧ True) ∧ ∀ (x : Nat × Bool × List UInt8),
 x.1 ≤ x.2.2.length ∧ x.2.2.length ≤ (17 : Nat) ∧ Pl.num s = Pl.numD x.2.1 x.2.2 ∧ ¬(x.2.2.length = (0 : Nat) ∨
 (17 : Nat) < x.2.2.length ∨ x.2.2.getD (0 : Nat) (0 : UInt8) = (48 : UInt8) ∧ ((1 : Nat) < x.2.2.length ∨ x.2.1 = true)) ∧ (List.take x.1 x.2.2).all Pl.isDig = true →
 condP (decide ((↑x.1 : Int) < (↑(Pl.mkB x.2.2).size : Int)))
 (((0 : Int) ≤ (↑x.1 : Int) ∧ (↑x.1 : Int) < (↑(Pl.mkB x.2.2).size : Int)) ∧ condP (decide ((↑((Pl.mkB x.2.2).data.getD x.1 (0 : UInt8)).toNat : Int) < (48 : Int)))
 ((0 : Int) = (Pl.num s).1 ∧ false = (Pl.num s).2 ∧ True)
 (((0 : Int) ≤ (↑x.1 : Int) ∧ (↑x.1 : Int) < (↑(Pl.mkB x.2.2).size : Int)) ∧ condP (decide ((↑((Pl.mkB x.2.2).data.getD x.1 (0 : UInt8)).toNat : Int) > (57 : Int)))
 ((0 : Int) = (Pl.num s).1 ∧ false = (Pl.num s).2 ∧ True)
 (((0 : Int) ≤ (↑x.1 : Int) ∧ (↑x.1 : Int) < (↑(Pl.mkB x.2.2).size : Int)) ∧ Exists fun (x' : Nat × Bool × List UInt8) =>
 (x'.1 ≤ x'.2.2.length ∧ x'.2.2.length ≤ (17 : Nat) ∧ Pl.num s = Pl.numD x'.2.1 x'.2.2 ∧ ¬(x'.2.2.length = (0 : Nat) ∨
 (17 : Nat) < x'.2.2.length ∨
 x'.2.2.getD (0 : Nat) (0 : UInt8) = (48 : UInt8) ∧ ((1 : Nat) < x'.2.2.length ∨ x'.2.1 = true)) ∧ (List.take x'.1 x'.2.2).all Pl.isDig = true) ∧ x'.2.2.length - x'.1 < x.2.2.length - x.1 ∧ (Pl.mkB x.2.2 = Pl.mkB x'.2.2 ∧ x.2.1 = x'.2.1 ∧ IntKind.i64.wrap
 (IntKind.i64.wrap ((↑(Pl.vl (List.take x.1 x.2.2)) : Int) * (10 : Int)) +
 IntKind.i64.wrap (IntKind.u8.wrap ((↑((Pl.mkB x.2.2).data.getD x.1 (0 : UInt8)).toNat : Int) - (48 : Int)))) =
 (↑(Pl.vl (List.take x'.1 x'.2.2)) : Int) ∧ IntKind.i64.wrap ((↑x.1 : Int) + (1 : Int)) = (↑x'.1 : Int) ∧ True) ∧ True)))
 (condP x.2.1 (IntKind.i64.wrap ((0 : Int) - (↑(Pl.vl (List.take x.1 x.2.2)) : Int)) = (Pl.num s).1 ∧ true = (Pl.num s).2 ∧ True)
 ((↑(Pl.vl (List.take x.1 x.2.2)) : Int) = (Pl.num s).1 ∧ true = (Pl.num s).2 ∧ True)))))
 ((∃ x : Nat × Bool × List UInt8,
 (x.1 ≤ x.2.2.length ∧ x.2.2.length ≤ (17 : Nat) ∧ Pl.num s = Pl.numD x.2.1 x.2.2 ∧ ¬(x.2.2.length = (0 : Nat) ∨
 (17 : Nat) < x.2.2.length ∨ x.2.2.getD (0 : Nat) (0 : UInt8) = (48 : UInt8) ∧ ((1 : Nat) < x.2.2.length ∨ x.2.1 = true)) ∧ (List.take x.1 x.2.2).all Pl.isDig = true) ∧ (s.extract (1 : Nat) s.size = Pl.mkB x.2.2 ∧ ((↑(s.data.getD (0 : Nat) (0 : UInt8)).toNat : Int) == (45 : Int)) = x.2.1 ∧ (0 : Int) = (↑(Pl.vl (List.take x.1 x.2.2)) : Int) ∧ (0 : Int) = (↑x.1 : Int) ∧ True) ∧ True) ∧ ∀ (x : Nat × Bool × List UInt8),
 x.1 ≤ x.2.2.length ∧ x.2.2.length ≤ (17 : Nat) ∧ Pl.num s = Pl.numD x.2.1 x.2.2 ∧ ¬(x.2.2.length = (0 : Nat) ∨
 (17 : Nat) < x.2.2.length ∨ x.2.2.getD (0 : Nat) (0 : UInt8) = (48 : UInt8) ∧ ((1 : Nat) < x.2.2.length ∨ x.2.1 = true)) ∧ (List.take x.1 x.2.2).all Pl.isDig = true →
 condP (decide ((↑x.1 : Int) < (↑(Pl.mkB x.2.2).size : Int)))
 (((0 : Int) ≤ (↑x.1 : Int) ∧ (↑x.1 : Int) < (↑(Pl.mkB x.2.2).size : Int)) ∧ condP (decide ((↑((Pl.mkB x.2.2).data.getD x.1 (0 : UInt8)).toNat : Int) < (48 : Int))) ((0 : Int) = (Pl.num s).1 ∧ false = (Pl.num s).2 ∧ True)
 (((0 : Int) ≤ (↑x.1 : Int) ∧ (↑x.1 : Int) < (↑(Pl.mkB x.2.2).size : Int)) ∧ condP (decide ((↑((Pl.mkB x.2.2).data.getD x.1 (0 : UInt8)).toNat : Int) > (57 : Int)))
 ((0 : Int) = (Pl.num s).1 ∧ false = (Pl.num s).2 ∧ True)
 (((0 : Int) ≤ (↑x.1 : Int) ∧ (↑x.1 : Int) < (↑(Pl.mkB x.2.2).size : Int)) ∧ Exists fun (x' : Nat × Bool × List UInt8) =>
 (x'.1 ≤ x'.2.2.length ∧ x'.2.2.length ≤ (17 : Nat) ∧ Pl.num s = Pl.numD x'.2.1 x'.2.2 ∧ ¬(x'.2.2.length = (0 : Nat) ∨
 (17 : Nat) < x'.2.2.length ∨ x'.2.2.getD (0 : Nat) (0 : UInt8) = (48 : UInt8) ∧ ((1 : Nat) < x'.2.2.length ∨ x'.2.1 = true)) ∧ (List.take x'.1 x'.2.2).all Pl.isDig = true) ∧ x'.2.2.length - x'.1 < x.2.2.length - x.1 ∧ (Pl.mkB x.2.2 = Pl.mkB x'.2.2 ∧ x.2.1 = x'.2.1 ∧ IntKind.i64.wrap
 (IntKind.i64.wrap ((↑(Pl.vl (List.take x.1 x.2.2)) : Int) * (10 : Int)) +
 IntKind.i64.wrap (IntKind.u8.wrap ((↑((Pl.mkB x.2.2).data.getD x.1 (0 : UInt8)).toNat : Int) - (48 : Int)))) =
 (↑(Pl.vl (List.take x'.1 x'.2.2)) : Int) ∧ IntKind.i64.wrap ((↑x.1 : Int) + (1 : Int)) = (↑x'.1 : Int) ∧ True) ∧ True)))
 (condP x.2.1 (IntKind.i64.wrap ((0 : Int) - (↑(Pl.vl (List.take x.1 x.2.2)) : Int)) = (Pl.num s).1 ∧ true = (Pl.num s).2 ∧ True)
 ((↑(Pl.vl (List.take x.1 x.2.2)) : Int) = (Pl.num s).1 ∧ true = (Pl.num s).2 ∧ True))))))
 (condP ((↑s.size : Int) == (0 : Int)) ((0 : Int) = (Pl.num s).1 ∧ false = (Pl.num s).2 ∧ True)
 (condP (decide ((↑s.size : Int) > (17 : Int))) ((0 : Int) = (Pl.num s).1 ∧ false = (Pl.num s).2 ∧ True)
 (((0 : Int) ≤ (0 : Int) ∧ (0 : Int) < (↑s.size : Int)) ∧ condP ((↑(s.data.getD (0 : Nat) (0 : UInt8)).toNat : Int) == (48 : Int))
 (condP (decide ((↑s.size : Int) > (1 : Int))) ((0 : Int) = (Pl.num s).1 ∧ false = (Pl.num s).2 ∧ True)
 (condP ((↑(s.data.getD (0 : Nat) (0 : UInt8)).toNat : Int) == (45 : Int)) ((0 : Int) = (Pl.num s).1 ∧ false = (Pl.num s).2 ∧ True)
 ((∃ x : Nat × Bool × List UInt8,
 (x.1 ≤ x.2.2.length ∧ x.2.2.length ≤ (17 : Nat) ∧ Pl.num s = Pl.numD x.2.1 x.2.2 ∧ ¬(x.2.2.length = (0 : Nat) ∨
 (17 : Nat) < x.2.2.length ∨ x.2.2.getD (0 : Nat) (0 : UInt8) = (48 : UInt8) ∧ ((1 : Nat) < x.2.2.length ∨ x.2.1 = true)) ∧ (List.take x.1 x.2.2).all Pl.isDig = true) ∧ (s = Pl.mkB x.2.2 ∧ ((↑(s.data.getD (0 : Nat) (0 : UInt8)).toNat : Int) == (45 : Int)) = x.2.1 ∧ (0 : Int) = (↑(Pl.vl (List.take x.1 x.2.2)) : Int) ∧ (0 : Int) = (↑x.1 : Int) ∧ True) ∧ True) ∧ ∀ (x : Nat × Bool × List UInt8),
 x.1 ≤ x.2.2.length ∧ x.2.2.length ≤ (17 : Nat) ∧ Pl.num s = Pl.numD x.2.1 x.2.2 ∧ ¬(x.2.2.length = (0 : Nat) ∨
 (17 : Nat) < x.2.2.length ∨ x.2.2.getD (0 : Nat) (0 : UInt8) = (48 : UInt8) ∧ ((1 : Nat) < x.2.2.length ∨ x.2.1 = true)) ∧ (List.take x.1 x.2.2).all Pl.isDig = true →
 condP (decide ((↑x.1 : Int) < (↑(Pl.mkB x.2.2).size : Int)))
 (((0 : Int) ≤ (↑x.1 : Int) ∧ (↑x.1 : Int) < (↑(Pl.mkB x.2.2).size : Int)) ∧ condP (decide ((↑((Pl.mkB x.2.2).data.getD x.1 (0 : UInt8)).toNat : Int) < (48 : Int))) ((0 : Int) = (Pl.num s).1 ∧ false = (Pl.num s).2 ∧ True)
 (((0 : Int) ≤ (↑x.1 : Int) ∧ (↑x.1 : Int) < (↑(Pl.mkB x.2.2).size : Int)) ∧ condP (decide ((↑((Pl.mkB x.2.2).data.getD x.1 (0 : UInt8)).toNat : Int) > (57 : Int)))
 ((0 : Int) = (Pl.num s).1 ∧ false = (Pl.num s).2 ∧ True)
 (((0 : Int) ≤ (↑x.1 : Int) ∧ (↑x.1 : Int) < (↑(Pl.mkB x.2.2).size : Int)) ∧ Exists fun (x' : Nat × Bool × List UInt8) =>
 (x'.1 ≤ x'.2.2.length ∧ x'.2.2.length ≤ (17 : Nat) ∧ Pl.num s = Pl.numD x'.2.1 x'.2.2 ∧ ¬(x'.2.2.length = (0 : Nat) ∨
 (17 : Nat) < x'.2.2.length ∨ x'.2.2.getD (0 : Nat) (0 : UInt8) = (48 : UInt8) ∧ ((1 : Nat) < x'.2.2.length ∨ x'.2.1 = true)) ∧ (List.take x'.1 x'.2.2).all Pl.isDig = true) ∧ x'.2.2.length - x'.1 < x.2.2.length - x.1 ∧ (Pl.mkB x.2.2 = Pl.mkB x'.2.2 ∧ x.2.1 = x'.2.1 ∧ IntKind.i64.wrap
 (IntKind.i64.wrap ((↑(Pl.vl (List.take x.1 x.2.2)) : Int) * (10 : Int)) +
 IntKind.i64.wrap (IntKind.u8.wrap ((↑((Pl.mkB x.2.2).data.getD x.1 (0 : UInt8)).toNat : Int) - (48 : Int)))) =
 (↑(Pl.vl (List.take x'.1 x'.2.2)) : Int) ∧ IntKind.i64.wrap ((↑x.1 : Int) + (1 : Int)) = (↑x'.1 : Int) ∧ True) ∧ True)))
 (condP x.2.1 (IntKind.i64.wrap ((0 : Int) - (↑(Pl.vl (List.take x.1 x.2.2)) : Int)) = (Pl.num s).1 ∧ true = (Pl.num s).2 ∧ True)
 ((↑(Pl.vl (List.take x.1 x.2.2)) : Int) = (Pl.num s).1 ∧ true = (Pl.num s).2 ∧ True)))))
 ((∃ x : Nat × Bool × List UInt8,
 (x.1 ≤ x.2.2.length ∧ x.2.2.length ≤ (17 : Nat) ∧ Pl.num s = Pl.numD x.2.1 x.2.2 ∧ ¬(x.2.2.length = (0 : Nat) ∨
 (17 : Nat) < x.2.2.length ∨ x.2.2.getD (0 : Nat) (0 : UInt8) = (48 : UInt8) ∧ ((1 : Nat) < x.2.2.length ∨ x.2.1 = true)) ∧ (List.take x.1 x.2.2).all Pl.isDig = true) ∧ (s = Pl.mkB x.2.2 ∧ ((↑(s.data.getD (0 : Nat) (0 : UInt8)).toNat : Int) == (45 : Int)) = x.2.1 ∧ (0 : Int) = (↑(Pl.vl (List.take x.1 x.2.2)) : Int) ∧ (0 : Int) = (↑x.1 : Int) ∧ True) ∧ True) ∧ ∀ (x : Nat × Bool × List UInt8),
 x.1 ≤ x.2.2.length ∧ x.2.2.length ≤ (17 : Nat) ∧ Pl.num s = Pl.numD x.2.1 x.2.2 ∧ ¬(x.2.2.length = (0 : Nat) ∨
 (17 : Nat) < x.2.2.length ∨ x.2.2.getD (0 : Nat) (0 : UInt8) = (48 : UInt8) ∧ ((1 : Nat) < x.2.2.length ∨ x.2.1 = true)) ∧ (List.take x.1 x.2.2).all Pl.isDig = true →
 condP (decide ((↑x.1 : Int) < (↑(Pl.mkB x.2.2).size : Int)))
 (((0 : Int) ≤ (↑x.1 : Int) ∧ (↑x.1 : Int) < (↑(Pl.mkB x.2.2).size : Int)) ∧ condP (decide ((↑((Pl.mkB x.2.2).data.getD x.1 (0 : UInt8)).toNat : Int) < (48 : Int))) ((0 : Int) = (Pl.num s).1 ∧ false = (Pl.num s).2 ∧ True)
 (((0 : Int) ≤ (↑x.1 : Int) ∧ (↑x.1 : Int) < (↑(Pl.mkB x.2.2).size : Int)) ∧ condP (decide ((↑((Pl.mkB x.2.2).data.getD x.1 (0 : UInt8)).toNat : Int) > (57 : Int))) ((0 : Int) = (Pl.num s).1 ∧ false = (Pl.num s).2 ∧ True)
 (((0 : Int) ≤ (↑x.1 : Int) ∧ (↑x.1 : Int) < (↑(Pl.mkB x.2.2).size : Int)) ∧ Exists fun (x' : Nat × Bool × List UInt8) =>
 (x'.1 ≤ x'.2.2.length ∧ x'.2.2.length ≤ (17 : Nat) ∧ Pl.num s = Pl.numD x'.2.1 x'.2.2 ∧ ¬(x'.2.2.length = (0 : Nat) ∨
 (17 : Nat) < x'.2.2.length ∨ x'.2.2.getD (0 : Nat) (0 : UInt8) = (48 : UInt8) ∧ ((1 : Nat) < x'.2.2.length ∨ x'.2.1 = true)) ∧ (List.take x'.1 x'.2.2).all Pl.isDig = true) ∧ x'.2.2.length - x'.1 < x.2.2.length - x.1 ∧ (Pl.mkB x.2.2 = Pl.mkB x'.2.2 ∧ x.2.1 = x'.2.1 ∧ IntKind.i64.wrap
 (IntKind.i64.wrap ((↑(Pl.vl (List.take x.1 x.2.2)) : Int) * (10 : Int)) +
 IntKind.i64.wrap (IntKind.u8.wrap ((↑((Pl.mkB x.2.2).data.getD x.1 (0 : UInt8)).toNat : Int) - (48 : Int)))) =
 (↑(Pl.vl (List.take x'.1 x'.2.2)) : Int) ∧ IntKind.i64.wrap ((↑x.1 : Int) + (1 : Int)) = (↑x'.1 : Int) ∧ True) ∧ True)))
 (condP x.2.1 (IntKind.i64.wrap ((0 : Int) - (↑(Pl.vl (List.take x.1 x.2.2)) : Int)) = (Pl.num s).1 ∧ true = (Pl.num s).2 ∧ True)
 ((↑(Pl.vl (List.take x.1 x.2.2)) : Int) = (Pl.num s).1 ∧ true = (Pl.num s).2 ∧ True)))))))
 (condP ((↑s.size : Int) == (0 : Int)) ((0 : Int) = (Pl.num s).1 ∧ false = (Pl.num s).2 ∧ True)
 (condP (decide ((↑s.size : Int) > (17 : Int))) ((0 : Int) = (Pl.num s).1 ∧ false = (Pl.num s).2 ∧ True)
 (((0 : Int) ≤ (0 : Int) ∧ (0 : Int) < (↑s.size : Int)) ∧ condP ((↑(s.data.getD (0 : Nat) (0 : UInt8)).toNat : Int) == (48 : Int))
 (condP (decide ((↑s.size : Int) > (1 : Int))) ((0 : Int) = (Pl.num s).1 ∧ false = (Pl.num s).2 ∧ True)
 ((∃ x : Nat × Bool × List UInt8,
 (x.1 ≤ x.2.2.length ∧ x.2.2.length ≤ (17 : Nat) ∧ Pl.num s = Pl.numD x.2.1 x.2.2 ∧ ¬(x.2.2.length = (0 : Nat) ∨ (17 : Nat) < x.2.2.length ∨ x.2.2.getD (0 : Nat) (0 : UInt8) = (48 : UInt8) ∧ ((1 : Nat) < x.2.2.length ∨ x.2.1 = true)) ∧ (List.take x.1 x.2.2).all Pl.isDig = true) ∧ (s = Pl.mkB x.2.2 ∧ false = x.2.1 ∧ (0 : Int) = (↑(Pl.vl (List.take x.1 x.2.2)) : Int) ∧ (0 : Int) = (↑x.1 : Int) ∧ True) ∧ True) ∧ ∀ (x : Nat × Bool × List UInt8),
 x.1 ≤ x.2.2.length ∧ x.2.2.length ≤ (17 : Nat) ∧ Pl.num s = Pl.numD x.2.1 x.2.2 ∧ ¬(x.2.2.length = (0 : Nat) ∨ (17 : Nat) < x.2.2.length ∨ x.2.2.getD (0 : Nat) (0 : UInt8) = (48 : UInt8) ∧ ((1 : Nat) < x.2.2.length ∨ x.2.1 = true)) ∧ (List.take x.1 x.2.2).all Pl.isDig = true →
 condP (decide ((↑x.1 : Int) < (↑(Pl.mkB x.2.2).size : Int)))
 (((0 : Int) ≤ (↑x.1 : Int) ∧ (↑x.1 : Int) < (↑(Pl.mkB x.2.2).size : Int)) ∧ condP (decide ((↑((Pl.mkB x.2.2).data.getD x.1 (0 : UInt8)).toNat : Int) < (48 : Int))) ((0 : Int) = (Pl.num s).1 ∧ false = (Pl.num s).2 ∧ True)
 (((0 : Int) ≤ (↑x.1 : Int) ∧ (↑x.1 : Int) < (↑(Pl.mkB x.2.2).size : Int)) ∧ condP (decide ((↑((Pl.mkB x.2.2).data.getD x.1 (0 : UInt8)).toNat : Int) > (57 : Int))) ((0 : Int) = (Pl.num s).1 ∧ false = (Pl.num s).2 ∧ True)
 (((0 : Int) ≤ (↑x.1 : Int) ∧ (↑x.1 : Int) < (↑(Pl.mkB x.2.2).size : Int)) ∧ Exists fun (x' : Nat × Bool × List UInt8) =>
 (x'.1 ≤ x'.2.2.length ∧ x'.2.2.length ≤ (17 : Nat) ∧ Pl.num s = Pl.numD x'.2.1 x'.2.2 ∧ ¬(x'.2.2.length = (0 : Nat) ∨
 (17 : Nat) < x'.2.2.length ∨ x'.2.2.getD (0 : Nat) (0 : UInt8) = (48 : UInt8) ∧ ((1 : Nat) < x'.2.2.length ∨ x'.2.1 = true)) ∧ (List.take x'.1 x'.2.2).all Pl.isDig = true) ∧ x'.2.2.length - x'.1 < x.2.2.length - x.1 ∧ (Pl.mkB x.2.2 = Pl.mkB x'.2.2 ∧ x.2.1 = x'.2.1 ∧ IntKind.i64.wrap
 (IntKind.i64.wrap ((↑(Pl.vl (List.take x.1 x.2.2)) : Int) * (10 : Int)) +
 IntKind.i64.wrap (IntKind.u8.wrap ((↑((Pl.mkB x.2.2).data.getD x.1 (0 : UInt8)).toNat : Int) - (48 : Int)))) =
 (↑(Pl.vl (List.take x'.1 x'.2.2)) : Int) ∧ IntKind.i64.wrap ((↑x.1 : Int) + (1 : Int)) = (↑x'.1 : Int) ∧ True) ∧ True)))
 (condP x.2.1 (IntKind.i64.wrap ((0 : Int) - (↑(Pl.vl (List.take x.1 x.2.2)) : Int)) = (Pl.num s).1 ∧ true = (Pl.num s).2 ∧ True)
 ((↑(Pl.vl (List.take x.1 x.2.2)) : Int) = (Pl.num s).1 ∧ true = (Pl.num s).2 ∧ True))))
 ((∃ x : Nat × Bool × List UInt8,
 (x.1 ≤ x.2.2.length ∧ x.2.2.length ≤ (17 : Nat) ∧ Pl.num s = Pl.numD x.2.1 x.2.2 ∧ ¬(x.2.2.length = (0 : Nat) ∨ (17 : Nat) < x.2.2.length ∨ x.2.2.getD (0 : Nat) (0 : UInt8) = (48 : UInt8) ∧ ((1 : Nat) < x.2.2.length ∨ x.2.1 = true)) ∧ (List.take x.1 x.2.2).all Pl.isDig = true) ∧ (s = Pl.mkB x.2.2 ∧ false = x.2.1 ∧ (0 : Int) = (↑(Pl.vl (List.take x.1 x.2.2)) : Int) ∧ (0 : Int) = (↑x.1 : Int) ∧ True) ∧ True) ∧ ∀ (x : Nat × Bool × List UInt8),
 x.1 ≤ x.2.2.length ∧ x.2.2.length ≤ (17 : Nat) ∧ Pl.num s = Pl.numD x.2.1 x.2.2 ∧ ¬(x.2.2.length = (0 : Nat) ∨ (17 : Nat) < x.2.2.length ∨ x.2.2.getD (0 : Nat) (0 : UInt8) = (48 : UInt8) ∧ ((1 : Nat) < x.2.2.length ∨ x.2.1 = true)) ∧ (List.take x.1 x.2.2).all Pl.isDig = true →
 condP (decide ((↑x.1 : Int) < (↑(Pl.mkB x.2.2).size : Int)))
 (((0 : Int) ≤ (↑x.1 : Int) ∧ (↑x.1 : Int) < (↑(Pl.mkB x.2.2).size : Int)) ∧ condP (decide ((↑((Pl.mkB x.2.2).data.getD x.1 (0 : UInt8)).toNat : Int) < (48 : Int))) ((0 : Int) = (Pl.num s).1 ∧ false = (Pl.num s).2 ∧ True)
 (((0 : Int) ≤ (↑x.1 : Int) ∧ (↑x.1 : Int) < (↑(Pl.mkB x.2.2).size : Int)) ∧ condP (decide ((↑((Pl.mkB x.2.2).data.getD x.1 (0 : UInt8)).toNat : Int) > (57 : Int))) ((0 : Int) = (Pl.num s).1 ∧ false = (Pl.num s).2 ∧ True)
 (((0 : Int) ≤ (↑x.1 : Int) ∧ (↑x.1 : Int) < (↑(Pl.mkB x.2.2).size : Int)) ∧ Exists fun (x' : Nat × Bool × List UInt8) =>
 (x'.1 ≤ x'.2.2.length ∧ x'.2.2.length ≤ (17 : Nat) ∧ Pl.num s = Pl.numD x'.2.1 x'.2.2 ∧ ¬(x'.2.2.length = (0 : Nat) ∨
 (17 : Nat) < x'.2.2.length ∨ x'.2.2.getD (0 : Nat) (0 : UInt8) = (48 : UInt8) ∧ ((1 : Nat) < x'.2.2.length ∨ x'.2.1 = true)) ∧ (List.take x'.1 x'.2.2).all Pl.isDig = true) ∧ x'.2.2.length - x'.1 < x.2.2.length - x.1 ∧ (Pl.mkB x.2.2 = Pl.mkB x'.2.2 ∧ x.2.1 = x'.2.1 ∧ IntKind.i64.wrap
 (IntKind.i64.wrap ((↑(Pl.vl (List.take x.1 x.2.2)) : Int) * (10 : Int)) +
 IntKind.i64.wrap (IntKind.u8.wrap ((↑((Pl.mkB x.2.2).data.getD x.1 (0 : UInt8)).toNat : Int) - (48 : Int)))) =
 (↑(Pl.vl (List.take x'.1 x'.2.2)) : Int) ∧ IntKind.i64.wrap ((↑x.1 : Int) + (1 : Int)) = (↑x'.1 : Int) ∧ True) ∧ True)))
 (condP x.2.1 (IntKind.i64.wrap ((0 : Int) - (↑(Pl.vl (List.take x.1 x.2.2)) : Int)) = (Pl.num s).1 ∧ true = (Pl.num s).2 ∧ True)
 ((↑(Pl.vl (List.take x.1 x.2.2)) : Int) = (Pl.num s).1 ∧ true = (Pl.num s).2 ∧ True))))))) = Goal Tryz.prog [] (A_l16Num s) K_l16Num.1 K_l16Num.2 (s) := by kernel_rfl

end Cg

/-
  What is left to show of each function's code, printed by a program: Txt. No condition.
-/
set_option maxRecDepth 100000
set_option linter.unusedVariables false
namespace Cg
open Go Go.Proofs
theorem vc_l16Dec (n : Nat) (x : Int) : (condP (decide (x < (-9223372036854775807 : Int)))
 (ByteArray.mk
 #[(45 : UInt8), (57 : UInt8), (50 : UInt8), (50 : UInt8), (51 : UInt8), (51 : UInt8), (55 : UInt8), (50 : UInt8), (48 : UInt8), (51 : UInt8), (54 : UInt8), (56 : UInt8), (53 : UInt8),
 (52 : UInt8), (55 : UInt8), (55 : UInt8), (53 : UInt8), (56 : UInt8), (48 : UInt8), (56 : UInt8)] =
 Pl.dec x)
 (condP (decide (x < (0 : Int)))
 (∃ x_1 : Int,
 (IntKind.i64.wrap ((0 : Int) - x) = x_1 ∧ True) ∧ (Pl.In64 x_1 ∧ (if x_1 < (0 : Int) then (1 : Nat) else (0 : Nat)) < n) ∧ (↑((1 : Nat) + (Pl.dec x_1).size) : Int) ≤ (9223372036854775807 : Int) ∧ ByteArray.mk #[(45 : UInt8)] ++ Pl.dec x_1 = Pl.dec x)
 ((∃ x_1 : Nat × ByteArray,
 (Pl.In64 (↑x_1.1 : Int) ∧ (0 : Int) ≤ x ∧ Pl.dec x = Pl.dec (↑x_1.1 : Int) ++ x_1.2) ∧ (x = (↑x_1.1 : Int) ∧ ByteArray.mk #[] = x_1.2 ∧ True) ∧ True) ∧ ∀ (x_1 : Nat × ByteArray),
 Pl.In64 (↑x_1.1 : Int) ∧ (0 : Int) ≤ x ∧ Pl.dec x = Pl.dec (↑x_1.1 : Int) ++ x_1.2 →
 condP (decide ((↑x_1.1 : Int) > (9 : Int)))
 ((10 : Int) ≠ (0 : Int) ∧ (↑((ByteArray.mk (#[].push (UInt8.ofNat (IntKind.u8.wrap (IntKind.i64.wrap ((48 : Int) + (↑x_1.1 : Int).tmod (10 : Int)))).toNat))).size + x_1.2.size) : Int) ≤
 (9223372036854775807 : Int) ∧ (10 : Int) ≠ (0 : Int) ∧ Exists fun (x' : Nat × ByteArray) =>
 (Pl.In64 (↑x'.1 : Int) ∧ (0 : Int) ≤ x ∧ Pl.dec x = Pl.dec (↑x'.1 : Int) ++ x'.2) ∧ x'.1 < x_1.1 ∧ (IntKind.i64.wrap ((↑x_1.1 : Int).tdiv (10 : Int)) = (↑x'.1 : Int) ∧ ByteArray.mk (#[].push (UInt8.ofNat (IntKind.u8.wrap (IntKind.i64.wrap ((48 : Int) + (↑x_1.1 : Int).tmod (10 : Int)))).toNat)) ++ x_1.2 = x'.2 ∧ True) ∧ True)
 ((↑((ByteArray.mk (#[].push (UInt8.ofNat (IntKind.u8.wrap (IntKind.i64.wrap ((48 : Int) + (↑x_1.1 : Int)))).toNat))).size + x_1.2.size) : Int) ≤ (9223372036854775807 : Int) ∧ ByteArray.mk (#[].push (UInt8.ofNat (IntKind.u8.wrap (IntKind.i64.wrap ((48 : Int) + (↑x_1.1 : Int)))).toNat)) ++ x_1.2 = Pl.dec x)))) = Goal Tryz.prog [(K_l16Dec n)] (A_l16Dec x) (K_l16Dec (n + 1)).1 (K_l16Dec (n + 1)).2 (x) := by kernel_rfl

theorem vc_sAtomText (x : Pl.Atm) : (∃ x_1 : Pl.Atm,
 ((x.1 = x_1.1 ∧ x.2.1.1 = x_1.2.1.1 ∧ Is (terms x.2.1.2) (terms x_1.2.1.2) ∧ x.2.2.1.1 = x_1.2.2.1.1 ∧ Is (terms x.2.2.1.2) (terms x_1.2.2.1.2) ∧ Is (terms x.2.2.2.1) (terms x_1.2.2.2.1) ∧ Is (ints x.2.2.2.2.1) (ints x_1.2.2.2.2.1) ∧ x.2.2.2.2.2.1 = x_1.2.2.2.2.2.1 ∧ x.2.2.2.2.2.2 = x_1.2.2.2.2.2.2 ∧ True) ∧ True) ∧ SmA x_1 ∧ condP (!Pl.atomRight x_1) (ByteArray.mk #[] = Pl.tx (Pl.atomRight x) (Pl.atomB x))
 (condP (x.1 == (1 : Int))
 (∃ x_2 : Pl.TP,
 ((x.2.1.1 = x_2.1 ∧ Is (terms x.2.1.2) (terms x_2.2) ∧ True) ∧ True) ∧ SmT (Pl.Tree.mk x_2.1 x_2.2) ∧ (↑((Pl.textT (Pl.Tree.mk x_2.1 x_2.2)).size + (1 : Nat)) : Int) ≤ (9223372036854775807 : Int) ∧ ∃ x_3 : Pl.TP,
 ((x.2.2.1.1 = x_3.1 ∧ Is (terms x.2.2.1.2) (terms x_3.2) ∧ True) ∧ True) ∧ SmT (Pl.Tree.mk x_3.1 x_3.2) ∧ (↑((Pl.textT (Pl.Tree.mk x_2.1 x_2.2) ++ ByteArray.mk #[(61 : UInt8)]).size + (Pl.textT (Pl.Tree.mk x_3.1 x_3.2)).size) : Int) ≤ (9223372036854775807 : Int) ∧ Pl.textT (Pl.Tree.mk x_2.1 x_2.2) ++ ByteArray.mk #[(61 : UInt8)] ++ Pl.textT (Pl.Tree.mk x_3.1 x_3.2) = Pl.tx (Pl.atomRight x) (Pl.atomB x))
 ((∃ x_2 : Nat,
 (¬x.1 = (1 : Int) ∧ Pl.atomRight x = true ∧ x_2 ≤ x.2.2.2.1.length) ∧ ((0 : Nat) = (0 : Nat) ∧ ByteArray.mk #[] = Pl.mkB (Pl.numsB (List.take x_2 x.2.2.2.1) (List.take x_2 x.2.2.2.2.1)) ∧ (0 : Int) = (↑x_2 : Int) ∧ True) ∧ (x.1 = x.1 ∧ x.2.1.1 = x.2.1.1 ∧ Is (terms x.2.1.2) (terms x.2.1.2) ∧ x.2.2.1.1 = x.2.2.1.1 ∧ Is (terms x.2.2.1.2) (terms x.2.2.1.2) ∧ Is (terms x.2.2.2.1) (terms x.2.2.2.1) ∧ Is (ints x.2.2.2.2.1) (ints x.2.2.2.2.1) ∧ x.2.2.2.2.2.1 = x.2.2.2.2.2.1 ∧ x.2.2.2.2.2.2 = x.2.2.2.2.2.2 ∧ True) ∧ True) ∧ ∀ (x_2 : Nat),
 ¬x.1 = (1 : Int) ∧ Pl.atomRight x = true ∧ x_2 ≤ x.2.2.2.1.length →
 condP (decide ((↑x_2 : Int) < (↑x.2.2.2.1.length : Int)))
 (((0 : Int) ≤ (↑x_2 : Int) ∧ (↑x_2 : Int) < (↑x.2.2.2.2.1.length : Int)) ∧ x_2 < x.2.2.2.2.1.length ∧ ∃ x_3 : Int,
 (x.2.2.2.2.1.getD x_2 (0 : Int) = x_3 ∧ True) ∧ Pl.In64 x_3 ∧ (↑((Pl.mkB (Pl.numsB (List.take x_2 x.2.2.2.1) (List.take x_2 x.2.2.2.2.1))).size + (Pl.dec x_3).size) : Int) ≤ (9223372036854775807 : Int) ∧ (↑((Pl.mkB (Pl.numsB (List.take x_2 x.2.2.2.1) (List.take x_2 x.2.2.2.2.1)) ++ Pl.dec x_3).size + (1 : Nat)) : Int) ≤ (9223372036854775807 : Int) ∧ ((0 : Int) ≤ (↑x_2 : Int) ∧ (↑x_2 : Int) < (↑x.2.2.2.1.length : Int)) ∧ x_2 < x.2.2.2.1.length ∧ ∃ x_4 : Pl.TP,
 ((Pl.Tree.val (x.2.2.2.1.getD x_2 Pl.dT) = x_4.1 ∧ Is (kidsT (x.2.2.2.1.getD x_2 Pl.dT)) (terms x_4.2) ∧ True) ∧ True) ∧ SmT (Pl.Tree.mk x_4.1 x_4.2) ∧ (↑((Pl.mkB (Pl.numsB (List.take x_2 x.2.2.2.1) (List.take x_2 x.2.2.2.2.1)) ++ Pl.dec x_3 ++ ByteArray.mk #[(42 : UInt8)]).size +
 (Pl.textT (Pl.Tree.mk x_4.1 x_4.2)).size) :
 Int) ≤
 (9223372036854775807 : Int) ∧ (↑((Pl.mkB (Pl.numsB (List.take x_2 x.2.2.2.1) (List.take x_2 x.2.2.2.2.1)) ++ Pl.dec x_3 ++ ByteArray.mk #[(42 : UInt8)] ++
 Pl.textT (Pl.Tree.mk x_4.1 x_4.2)).size +
 (1 : Nat)) :
 Int) ≤
 (9223372036854775807 : Int) ∧ Exists fun (x' : Nat) =>
 (¬x.1 = (1 : Int) ∧ Pl.atomRight x = true ∧ x' ≤ x.2.2.2.1.length) ∧ x.2.2.2.1.length - x' < x.2.2.2.1.length - x_2 ∧ ((0 : Nat) = (0 : Nat) ∧ Pl.mkB (Pl.numsB (List.take x_2 x.2.2.2.1) (List.take x_2 x.2.2.2.2.1)) ++ Pl.dec x_3 ++ ByteArray.mk #[(42 : UInt8)] ++
 Pl.textT (Pl.Tree.mk x_4.1 x_4.2) ++
 ByteArray.mk #[(32 : UInt8)] =
 Pl.mkB (Pl.numsB (List.take x' x.2.2.2.1) (List.take x' x.2.2.2.2.1)) ∧ IntKind.i64.wrap ((↑x_2 : Int) + (1 : Int)) = (↑x' : Int) ∧ True) ∧ (x.1 = x.1 ∧ x.2.1.1 = x.2.1.1 ∧ Is (terms x.2.1.2) (terms x.2.1.2) ∧ x.2.2.1.1 = x.2.2.1.1 ∧ Is (terms x.2.2.1.2) (terms x.2.2.1.2) ∧ Is (terms x.2.2.2.1) (terms x.2.2.2.1) ∧ Is (ints x.2.2.2.2.1) (ints x.2.2.2.2.1) ∧ x.2.2.2.2.2.1 = x.2.2.2.2.2.1 ∧ x.2.2.2.2.2.2 = x.2.2.2.2.2.2 ∧ True) ∧ True)
 (condP x.2.2.2.2.2.2
 ((↑((Pl.mkB (Pl.numsB (List.take x_2 x.2.2.2.1) (List.take x_2 x.2.2.2.2.1))).size + (2 : Nat)) : Int) ≤ (9223372036854775807 : Int) ∧ ∃ x_3 : Int,
 (x.2.2.2.2.2.1 = x_3 ∧ True) ∧ Pl.In64 x_3 ∧ (↑((Pl.mkB (Pl.numsB (List.take x_2 x.2.2.2.1) (List.take x_2 x.2.2.2.2.1)) ++ ByteArray.mk #[(60 : UInt8), (32 : UInt8)]).size + (Pl.dec x_3).size) :
 Int) ≤
 (9223372036854775807 : Int) ∧ Pl.mkB (Pl.numsB (List.take x_2 x.2.2.2.1) (List.take x_2 x.2.2.2.2.1)) ++ ByteArray.mk #[(60 : UInt8), (32 : UInt8)] ++ Pl.dec x_3 =
 Pl.tx (Pl.atomRight x) (Pl.atomB x))
 ((↑((Pl.mkB (Pl.numsB (List.take x_2 x.2.2.2.1) (List.take x_2 x.2.2.2.2.1))).size + (3 : Nat)) : Int) ≤ (9223372036854775807 : Int) ∧ ∃ x_3 : Int,
 (x.2.2.2.2.2.1 = x_3 ∧ True) ∧ Pl.In64 x_3 ∧ (↑((Pl.mkB (Pl.numsB (List.take x_2 x.2.2.2.1) (List.take x_2 x.2.2.2.2.1)) ++ ByteArray.mk #[(60 : UInt8), (61 : UInt8), (32 : UInt8)]).size +
 (Pl.dec x_3).size) :
 Int) ≤
 (9223372036854775807 : Int) ∧ Pl.mkB (Pl.numsB (List.take x_2 x.2.2.2.1) (List.take x_2 x.2.2.2.2.1)) ++ ByteArray.mk #[(60 : UInt8), (61 : UInt8), (32 : UInt8)] ++ Pl.dec x_3 =
 Pl.tx (Pl.atomRight x) (Pl.atomB x)))))) = Goal Tryz.prog [K_l6Right, K_lText, K_dec] (A_sAtomText x) K_sAtomText.1 K_sAtomText.2 (x) := by kernel_rfl

theorem vc_atomText (x : Pl.Atm) : (condP (x.1 == (1 : Int))
 (∃ x_1 : Pl.TP,
 ((x.2.1.1 = x_1.1 ∧ Is (terms x.2.1.2) (terms x_1.2) ∧ True) ∧ True) ∧ SmT (Pl.Tree.mk x_1.1 x_1.2) ∧ (↑((Pl.textT (Pl.Tree.mk x_1.1 x_1.2)).size + (1 : Nat)) : Int) ≤ (9223372036854775807 : Int) ∧ ∃ x_2 : Pl.TP,
 ((x.2.2.1.1 = x_2.1 ∧ Is (terms x.2.2.1.2) (terms x_2.2) ∧ True) ∧ True) ∧ SmT (Pl.Tree.mk x_2.1 x_2.2) ∧ (↑((Pl.textT (Pl.Tree.mk x_1.1 x_1.2) ++ ByteArray.mk #[(61 : UInt8)]).size + (Pl.textT (Pl.Tree.mk x_2.1 x_2.2)).size) : Int) ≤ (9223372036854775807 : Int) ∧ Pl.textT (Pl.Tree.mk x_1.1 x_1.2) ++ ByteArray.mk #[(61 : UInt8)] ++ Pl.textT (Pl.Tree.mk x_2.1 x_2.2) = Pl.mkB (Pl.atomB x))
 ((∃ x_1 : Nat,
 (¬x.1 = (1 : Int) ∧ x_1 ≤ x.2.2.2.1.length) ∧ ((0 : Nat) = (0 : Nat) ∧ ByteArray.mk #[] = Pl.mkB (Pl.numsB (List.take x_1 x.2.2.2.1) (List.take x_1 x.2.2.2.2.1)) ∧ Is (terms x.2.2.2.1) (terms x.2.2.2.1) ∧ (↑x.2.2.2.1.length : Int) = (↑x.2.2.2.1.length : Int) ∧ (0 : Int) = (↑x_1 : Int) ∧ True) ∧ (x.1 = x.1 ∧ x.2.1.1 = x.2.1.1 ∧ Is (terms x.2.1.2) (terms x.2.1.2) ∧ x.2.2.1.1 = x.2.2.1.1 ∧ Is (terms x.2.2.1.2) (terms x.2.2.1.2) ∧ Is (terms x.2.2.2.1) (terms x.2.2.2.1) ∧ Is (ints x.2.2.2.2.1) (ints x.2.2.2.2.1) ∧ x.2.2.2.2.2.1 = x.2.2.2.2.2.1 ∧ x.2.2.2.2.2.2 = x.2.2.2.2.2.2 ∧ True) ∧ True) ∧ ∀ (x_1 : Nat),
 ¬x.1 = (1 : Int) ∧ x_1 ≤ x.2.2.2.1.length →
 condP (decide ((↑x_1 : Int) < (↑x.2.2.2.1.length : Int)))
 (((0 : Int) ≤ (↑x_1 : Int) ∧ (↑x_1 : Int) < (↑x.2.2.2.1.length : Int)) ∧ x_1 < x.2.2.2.1.length ∧ ((0 : Int) ≤ (↑x_1 : Int) ∧ (↑x_1 : Int) < (↑x.2.2.2.2.1.length : Int)) ∧ x_1 < x.2.2.2.2.1.length ∧ ∃ x_2 : Int,
 (x.2.2.2.2.1.getD x_1 (0 : Int) = x_2 ∧ True) ∧ Pl.In64 x_2 ∧ (↑((Pl.dec x_2).size + (1 : Nat)) : Int) ≤ (9223372036854775807 : Int) ∧ ∃ x_3 : Pl.TP,
 ((Pl.Tree.val (x.2.2.2.1.getD x_1 Pl.dT) = x_3.1 ∧ Is (kidsT (x.2.2.2.1.getD x_1 Pl.dT)) (terms x_3.2) ∧ True) ∧ True) ∧ SmT (Pl.Tree.mk x_3.1 x_3.2) ∧ (↑((Pl.dec x_2 ++ ByteArray.mk #[(42 : UInt8)]).size + (Pl.textT (Pl.Tree.mk x_3.1 x_3.2)).size) : Int) ≤ (9223372036854775807 : Int) ∧ (↑((Pl.dec x_2 ++ ByteArray.mk #[(42 : UInt8)] ++ Pl.textT (Pl.Tree.mk x_3.1 x_3.2)).size + (1 : Nat)) : Int) ≤ (9223372036854775807 : Int) ∧ (↑((Pl.mkB (Pl.numsB (List.take x_1 x.2.2.2.1) (List.take x_1 x.2.2.2.2.1))).size +
 (Pl.dec x_2 ++ ByteArray.mk #[(42 : UInt8)] ++ Pl.textT (Pl.Tree.mk x_3.1 x_3.2) ++ ByteArray.mk #[(32 : UInt8)]).size) :
 Int) ≤
 (9223372036854775807 : Int) ∧ Exists fun (x' : Nat) =>
 (¬x.1 = (1 : Int) ∧ x' ≤ x.2.2.2.1.length) ∧ x.2.2.2.1.length - x' < x.2.2.2.1.length - x_1 ∧ ((0 : Nat) = (0 : Nat) ∧ Pl.mkB (Pl.numsB (List.take x_1 x.2.2.2.1) (List.take x_1 x.2.2.2.2.1)) ++
 (Pl.dec x_2 ++ ByteArray.mk #[(42 : UInt8)] ++ Pl.textT (Pl.Tree.mk x_3.1 x_3.2) ++ ByteArray.mk #[(32 : UInt8)]) =
 Pl.mkB (Pl.numsB (List.take x' x.2.2.2.1) (List.take x' x.2.2.2.2.1)) ∧ Is (terms x.2.2.2.1) (terms x.2.2.2.1) ∧ (↑x.2.2.2.1.length : Int) = (↑x.2.2.2.1.length : Int) ∧ IntKind.i64.wrap ((↑x_1 : Int) + (1 : Int)) = (↑x' : Int) ∧ True) ∧ (x.1 = x.1 ∧ x.2.1.1 = x.2.1.1 ∧ Is (terms x.2.1.2) (terms x.2.1.2) ∧ x.2.2.1.1 = x.2.2.1.1 ∧ Is (terms x.2.2.1.2) (terms x.2.2.1.2) ∧ Is (terms x.2.2.2.1) (terms x.2.2.2.1) ∧ Is (ints x.2.2.2.2.1) (ints x.2.2.2.2.1) ∧ x.2.2.2.2.2.1 = x.2.2.2.2.2.1 ∧ x.2.2.2.2.2.2 = x.2.2.2.2.2.2 ∧ True) ∧ True)
 (∃ x_2 : Bool,
 (x.2.2.2.2.2.2 = x_2 ∧ True) ∧ True ∧ (↑((Pl.mkB (Pl.numsB (List.take x_1 x.2.2.2.1) (List.take x_1 x.2.2.2.2.1))).size + (Pl.mkB (Pl.signB x_2)).size) : Int) ≤ (9223372036854775807 : Int) ∧ (↑((Pl.mkB (Pl.numsB (List.take x_1 x.2.2.2.1) (List.take x_1 x.2.2.2.2.1)) ++ Pl.mkB (Pl.signB x_2)).size + (1 : Nat)) : Int) ≤ (9223372036854775807 : Int) ∧ ∃ x_3 : Int,
 (x.2.2.2.2.2.1 = x_3 ∧ True) ∧ Pl.In64 x_3 ∧ (↑((Pl.mkB (Pl.numsB (List.take x_1 x.2.2.2.1) (List.take x_1 x.2.2.2.2.1)) ++ Pl.mkB (Pl.signB x_2) ++ ByteArray.mk #[(32 : UInt8)]).size +
 (Pl.dec x_3).size) :
 Int) ≤
 (9223372036854775807 : Int) ∧ Pl.mkB (Pl.numsB (List.take x_1 x.2.2.2.1) (List.take x_1 x.2.2.2.2.1)) ++ Pl.mkB (Pl.signB x_2) ++ ByteArray.mk #[(32 : UInt8)] ++ Pl.dec x_3 =
 Pl.mkB (Pl.atomB x)))) = Goal Tryz.prog [K_tText, K_Itoa, K_sign] (A_atomText x) K_atomText.1 K_atomText.2 (x) := by kernel_rfl

theorem vc_sign (x : Bool) : (condP x (ByteArray.mk #[(60 : UInt8)] = Pl.mkB (Pl.signB x)) (ByteArray.mk #[(60 : UInt8), (61 : UInt8)] = Pl.mkB (Pl.signB x))) = Goal Tryz.prog [] ([]) K_sign.1 K_sign.2 (x) := by kernel_rfl

theorem vc_sLitText (x : Pl.Ltr) : (∃ x_1 : Pl.Atm,
 ((x.1.1 = x_1.1 ∧ x.1.2.1.1 = x_1.2.1.1 ∧ Is (terms x.1.2.1.2) (terms x_1.2.1.2) ∧ x.1.2.2.1.1 = x_1.2.2.1.1 ∧ Is (terms x.1.2.2.1.2) (terms x_1.2.2.1.2) ∧ Is (terms x.1.2.2.2.1) (terms x_1.2.2.2.1) ∧ Is (ints x.1.2.2.2.2.1) (ints x_1.2.2.2.2.1) ∧ x.1.2.2.2.2.2.1 = x_1.2.2.2.2.2.1 ∧ x.1.2.2.2.2.2.2 = x_1.2.2.2.2.2.2 ∧ True) ∧ True) ∧ SmA x_1 ∧ condP x.2
 (condP (!(Pl.tx (Pl.atomRight x_1) (Pl.atomB x_1)).toList == (ByteArray.mk #[]).toList)
 ((↑((4 : Nat) + (Pl.tx (Pl.atomRight x_1) (Pl.atomB x_1)).size) : Int) ≤ (9223372036854775807 : Int) ∧ ByteArray.mk #[(110 : UInt8), (111 : UInt8), (116 : UInt8), (32 : UInt8)] ++ Pl.tx (Pl.atomRight x_1) (Pl.atomB x_1) = Pl.tx (Pl.atomRight x.1) (Pl.litB x))
 (Pl.tx (Pl.atomRight x_1) (Pl.atomB x_1) = Pl.tx (Pl.atomRight x.1) (Pl.litB x)))
 (Pl.tx (Pl.atomRight x_1) (Pl.atomB x_1) = Pl.tx (Pl.atomRight x.1) (Pl.litB x))) = Goal Tryz.prog [K_sAtomText] ([]) K_sLitText.1 K_sLitText.2 (x) := by kernel_rfl

theorem vc_litText (x : Pl.Ltr) : (condP x.2
 (∃ x_1 : Pl.Atm,
 ((x.1.1 = x_1.1 ∧ x.1.2.1.1 = x_1.2.1.1 ∧ Is (terms x.1.2.1.2) (terms x_1.2.1.2) ∧ x.1.2.2.1.1 = x_1.2.2.1.1 ∧ Is (terms x.1.2.2.1.2) (terms x_1.2.2.1.2) ∧ Is (terms x.1.2.2.2.1) (terms x_1.2.2.2.1) ∧ Is (ints x.1.2.2.2.2.1) (ints x_1.2.2.2.2.1) ∧ x.1.2.2.2.2.2.1 = x_1.2.2.2.2.2.1 ∧ x.1.2.2.2.2.2.2 = x_1.2.2.2.2.2.2 ∧ True) ∧ True) ∧ (SmA x_1 ∧ Pl.atomRight x_1 = true) ∧ (↑((4 : Nat) + (Pl.mkB (Pl.atomB x_1)).size) : Int) ≤ (9223372036854775807 : Int) ∧ ByteArray.mk #[(110 : UInt8), (111 : UInt8), (116 : UInt8), (32 : UInt8)] ++ Pl.mkB (Pl.atomB x_1) = Pl.mkB (Pl.litB x))
 (∃ x_1 : Pl.Atm,
 ((x.1.1 = x_1.1 ∧ x.1.2.1.1 = x_1.2.1.1 ∧ Is (terms x.1.2.1.2) (terms x_1.2.1.2) ∧ x.1.2.2.1.1 = x_1.2.2.1.1 ∧ Is (terms x.1.2.2.1.2) (terms x_1.2.2.1.2) ∧ Is (terms x.1.2.2.2.1) (terms x_1.2.2.2.1) ∧ Is (ints x.1.2.2.2.2.1) (ints x_1.2.2.2.2.1) ∧ x.1.2.2.2.2.2.1 = x_1.2.2.2.2.2.1 ∧ x.1.2.2.2.2.2.2 = x_1.2.2.2.2.2.2 ∧ True) ∧ True) ∧ (SmA x_1 ∧ Pl.atomRight x_1 = true) ∧ Pl.mkB (Pl.atomB x_1) = Pl.mkB (Pl.litB x))) = Goal Tryz.prog [K_atomText] ([]) K_litText.1 K_litText.2 (x) := by kernel_rfl

theorem vc_iLitText (x : Pl.Ltr) : (∃ x_1 : Pl.Atm,
 ((x.1.1 = x_1.1 ∧ x.1.2.1.1 = x_1.2.1.1 ∧ Is (terms x.1.2.1.2) (terms x_1.2.1.2) ∧ x.1.2.2.1.1 = x_1.2.2.1.1 ∧ Is (terms x.1.2.2.1.2) (terms x_1.2.2.1.2) ∧ Is (terms x.1.2.2.2.1) (terms x_1.2.2.2.1) ∧ Is (ints x.1.2.2.2.2.1) (ints x_1.2.2.2.2.1) ∧ x.1.2.2.2.2.2.1 = x_1.2.2.2.2.2.1 ∧ x.1.2.2.2.2.2.2 = x_1.2.2.2.2.2.2 ∧ True) ∧ True) ∧ SmA x_1 ∧ condP (!Pl.atomRight x_1) (ByteArray.mk #[] = Pl.tx (Pl.atomRight x.1) (Pl.litB x))
 (∃ x_2 : Pl.Ltr,
 ((x.1.1 = x_2.1.1 ∧ x.1.2.1.1 = x_2.1.2.1.1 ∧ Is (terms x.1.2.1.2) (terms x_2.1.2.1.2) ∧ x.1.2.2.1.1 = x_2.1.2.2.1.1 ∧ Is (terms x.1.2.2.1.2) (terms x_2.1.2.2.1.2) ∧ Is (terms x.1.2.2.2.1) (terms x_2.1.2.2.2.1) ∧ Is (ints x.1.2.2.2.2.1) (ints x_2.1.2.2.2.2.1) ∧ x.1.2.2.2.2.2.1 = x_2.1.2.2.2.2.2.1 ∧ x.1.2.2.2.2.2.2 = x_2.1.2.2.2.2.2.2 ∧ x.2 = x_2.2 ∧ True) ∧ True) ∧ (SmA x_2.1 ∧ Pl.atomRight x_2.1 = true) ∧ Pl.mkB (Pl.litB x_2) = Pl.tx (Pl.atomRight x.1) (Pl.litB x))) = Goal Tryz.prog [K_Atomok, K_litText] ([]) K_iLitText.1 K_iLitText.2 (x) := by kernel_rfl

end Cg

/-
  What is left to show of each function's code, printed by a program: Atm. No condition.
-/
set_option maxRecDepth 100000
set_option linter.unusedVariables false
namespace Cg
open Go Go.Proofs
theorem vc_l4Text (n : Nat) (x : Pl.TP) : ((∃ x_1 : Nat,
 x_1 ≤ x.2.length ∧ ((0 : Nat) = (0 : Nat) ∧ x.1 = Pl.spell x.1 (List.take x_1 x.2) ∧ (0 : Int) = (↑x_1 : Int) ∧ True) ∧ (x.1 = x.1 ∧ Is (terms x.2) (terms x.2) ∧ True) ∧ True) ∧ ∀ (x_1 : Nat),
 x_1 ≤ x.2.length →
 condP (decide ((↑x_1 : Int) < (↑x.2.length : Int)))
 (condP ((↑x_1 : Int) == (0 : Int))
 ((↑((Pl.spell x.1 (List.take x_1 x.2)).size + (1 : Nat)) : Int) ≤ (9223372036854775807 : Int) ∧ ((0 : Int) ≤ (↑x_1 : Int) ∧ (↑x_1 : Int) < (↑x.2.length : Int)) ∧ x_1 < x.2.length ∧ ∃ x_2 : Pl.TP,
 ((Pl.Tree.val (x.2.getD x_1 Pl.dT) = x_2.1 ∧ Is (kidsT (x.2.getD x_1 Pl.dT)) (terms x_2.2) ∧ True) ∧ True) ∧ (SmT (Pl.Tree.mk x_2.1 x_2.2) ∧ Pl.manyL x_2.2 < n) ∧ (↑((ByteArray.mk (Array.mk ((Pl.spell x.1 (List.take x_1 x.2)).data.toList ++ [(40 : UInt8)]))).size + (Pl.textT (Pl.Tree.mk x_2.1 x_2.2)).size) : Int) ≤
 (9223372036854775807 : Int) ∧ Exists fun (x' : Nat) =>
 x' ≤ x.2.length ∧ x.2.length - x' < x.2.length - x_1 ∧ ((0 : Nat) = (0 : Nat) ∧ ByteArray.mk
 (Array.mk
 ((ByteArray.mk (Array.mk ((Pl.spell x.1 (List.take x_1 x.2)).data.toList ++ [(40 : UInt8)]))).data.toList ++
 (Pl.textT (Pl.Tree.mk x_2.1 x_2.2)).data.toList)) =
 Pl.spell x.1 (List.take x' x.2) ∧ IntKind.i64.wrap ((↑x_1 : Int) + (1 : Int)) = (↑x' : Int) ∧ True) ∧ (x.1 = x.1 ∧ Is (terms x.2) (terms x.2) ∧ True) ∧ True)
 ((↑((Pl.spell x.1 (List.take x_1 x.2)).size + (1 : Nat)) : Int) ≤ (9223372036854775807 : Int) ∧ ((0 : Int) ≤ (↑x_1 : Int) ∧ (↑x_1 : Int) < (↑x.2.length : Int)) ∧ x_1 < x.2.length ∧ ∃ x_2 : Pl.TP,
 ((Pl.Tree.val (x.2.getD x_1 Pl.dT) = x_2.1 ∧ Is (kidsT (x.2.getD x_1 Pl.dT)) (terms x_2.2) ∧ True) ∧ True) ∧ (SmT (Pl.Tree.mk x_2.1 x_2.2) ∧ Pl.manyL x_2.2 < n) ∧ (↑((ByteArray.mk (Array.mk ((Pl.spell x.1 (List.take x_1 x.2)).data.toList ++ [(44 : UInt8)]))).size + (Pl.textT (Pl.Tree.mk x_2.1 x_2.2)).size) : Int) ≤
 (9223372036854775807 : Int) ∧ Exists fun (x' : Nat) =>
 x' ≤ x.2.length ∧ x.2.length - x' < x.2.length - x_1 ∧ ((0 : Nat) = (0 : Nat) ∧ ByteArray.mk
 (Array.mk
 ((ByteArray.mk (Array.mk ((Pl.spell x.1 (List.take x_1 x.2)).data.toList ++ [(44 : UInt8)]))).data.toList ++
 (Pl.textT (Pl.Tree.mk x_2.1 x_2.2)).data.toList)) =
 Pl.spell x.1 (List.take x' x.2) ∧ IntKind.i64.wrap ((↑x_1 : Int) + (1 : Int)) = (↑x' : Int) ∧ True) ∧ (x.1 = x.1 ∧ Is (terms x.2) (terms x.2) ∧ True) ∧ True))
 (condP (decide ((↑x.2.length : Int) > (0 : Int)))
 ((↑((Pl.spell x.1 (List.take x_1 x.2)).size + (1 : Nat)) : Int) ≤ (9223372036854775807 : Int) ∧ ByteArray.mk (Array.mk ((Pl.spell x.1 (List.take x_1 x.2)).data.toList ++ [(41 : UInt8)])) = Pl.textT (Pl.Tree.mk x.1 x.2))
 (Pl.spell x.1 (List.take x_1 x.2) = Pl.textT (Pl.Tree.mk x.1 x.2)))) = Goal Tryz.prog [(K_l4Text n)] (A_l4Text x.1 x.2) (K_l4Text (n + 1)).1 (K_l4Text (n + 1)).2 (x) := by kernel_rfl

theorem vc_termText (n : Nat) (x : Pl.TP) : (condP ((↑x.2.length : Int) == (0 : Int)) (x.1 = Pl.textT (Pl.Tree.mk x.1 x.2))
 ((∃ x_1 : Nat,
 (x_1 ≤ x.2.length ∧ x.2 ≠ []) ∧ ((0 : Nat) = (0 : Nat) ∧ ((0 : Nat) = (0 : Nat) ∧ (0 : Nat) = (0 : Nat) ∧ (Pl.textL (List.take x_1 x.2)).length = (0 : Nat)) ∧ Is (terms x.2) (terms x.2) ∧ (↑x.2.length : Int) = (↑x.2.length : Int) ∧ (0 : Int) = (↑x_1 : Int) ∧ True) ∧ (x.1 = x.1 ∧ Is (terms x.2) (terms x.2) ∧ True) ∧ (Pl.textL (List.take x_1 x.2)).length = (0 : Nat) ∧ True) ∧ ∀ (x_1 : Nat),
 x_1 ≤ x.2.length ∧ x.2 ≠ [] →
 condP (decide ((↑x_1 : Int) < (↑x.2.length : Int)))
 (((0 : Int) ≤ (↑x_1 : Int) ∧ (↑x_1 : Int) < (↑x.2.length : Int)) ∧ x_1 < x.2.length ∧ ∃ x_2 : Pl.TP,
 ((Pl.Tree.val (x.2.getD x_1 Pl.dT) = x_2.1 ∧ Is (kidsT (x.2.getD x_1 Pl.dT)) (terms x_2.2) ∧ True) ∧ True) ∧ (SmT (Pl.Tree.mk x_2.1 x_2.2) ∧ Pl.manyL x_2.2 < n) ∧ (0 : Nat) + (Pl.textL (List.take x_1 x.2)).length ≤ (Pl.textL (List.take x_1 x.2)).length ∧ ((Pl.textL (List.take x_1 x.2)).length + (1 : Nat)) * (16 : Nat) ≤ (70368744177664 : Nat) ∧ Exists fun (x' : Nat) =>
 (x' ≤ x.2.length ∧ x.2 ≠ []) ∧ x.2.length - x' < x.2.length - x_1 ∧ ((0 : Nat) = (0 : Nat) ∧ ((0 : Nat) = (0 : Nat) ∧ (Pl.textL (List.take x_1 x.2)).length + (1 : Nat) = (Pl.textL (List.take x' x.2)).length) ∧ Is (terms x.2) (terms x.2) ∧ (↑x.2.length : Int) = (↑x.2.length : Int) ∧ IntKind.i64.wrap ((↑x_1 : Int) + (1 : Int)) = (↑x' : Int) ∧ True) ∧ (x.1 = x.1 ∧ Is (terms x.2) (terms x.2) ∧ True) ∧ IsO
 (AObj.arr ((Pl.textL (List.take x_1 x.2)).length + (1 : Nat)) (1 : Nat)
 (joinC (Pl.textL (List.take x_1 x.2)).length (cS (Pl.textL (List.take x_1 x.2))) (rowsCell [[st (Pl.textT (Pl.Tree.mk x_2.1 x_2.2))]])))
 (arS (Pl.textL (List.take x' x.2))) ∧ True)
 ((↑(x.1.size + (1 : Nat)) : Int) ≤ (9223372036854775807 : Int) ∧ (0 : Nat) + (Pl.textL (List.take x_1 x.2)).length ≤ (Pl.textL (List.take x_1 x.2)).length ∧ ∃ x_2 : List ByteArray × ByteArray,
 (Is (strs (Pl.textL (List.take x_1 x.2))) (strs x_2.1) ∧ ByteArray.mk #[(44 : UInt8)] = x_2.2 ∧ True) ∧ (x_2.1.length ≤ (140737488355328 : Nat) ∧ (Pl.joinS x_2.1 x_2.2).size ≤ (140737488355328 : Nat)) ∧ (↑((ByteArray.mk (Array.mk (x.1.data.toList ++ [(40 : UInt8)]))).size + (Pl.joinS x_2.1 x_2.2).size) : Int) ≤ (9223372036854775807 : Int) ∧ (↑((ByteArray.mk (Array.mk ((ByteArray.mk (Array.mk (x.1.data.toList ++ [(40 : UInt8)]))).data.toList ++ (Pl.joinS x_2.1 x_2.2).data.toList))).size + (1 : Nat)) : Int) ≤
 (9223372036854775807 : Int) ∧ ByteArray.mk
 (Array.mk
 ((ByteArray.mk (Array.mk ((ByteArray.mk (Array.mk (x.1.data.toList ++ [(40 : UInt8)]))).data.toList ++ (Pl.joinS x_2.1 x_2.2).data.toList))).data.toList ++
 [(41 : UInt8)])) =
 Pl.textT (Pl.Tree.mk x.1 x.2)))) = Goal Tryz.prog [(K_termText n), K_Join] (A_termText x.1 x.2) (K_termText (n + 1)).1 (K_termText (n + 1)).2 (x) := by kernel_rfl

theorem vc_l6None (x : Pl.TP) : (condP (x.1.toList == (ByteArray.mk #[]).toList) (((↑x.2.length : Int) == (0 : Int)) = Pl.noneT x) (false = Pl.noneT x)) = Goal Tryz.prog [] ([]) K_l6None.1 K_l6None.2 (x) := by kernel_rfl

theorem vc_isNone (x : Pl.TP) : (condP (x.1.toList == (ByteArray.mk #[]).toList) (((↑x.2.length : Int) == (0 : Int)) = Pl.noneT x) (false = Pl.noneT x)) = Goal Tryz.prog [] ([]) K_isNone.1 K_isNone.2 (x) := by kernel_rfl

theorem vc_l6Sum (x : Pl.Atm) : (∃ x_1 : Pl.TP,
 ((x.2.1.1 = x_1.1 ∧ Is (terms x.2.1.2) (terms x_1.2) ∧ True) ∧ True) ∧ True ∧ condP (!Pl.noneT x_1) (false = Pl.sumRight x)
 (∃ x_2 : Pl.TP,
 ((x.2.2.1.1 = x_2.1 ∧ Is (terms x.2.2.1.2) (terms x_2.2) ∧ True) ∧ True) ∧ True ∧ condP (!Pl.noneT x_2) (false = Pl.sumRight x)
 (condP ((↑x.2.2.2.1.length : Int) != (↑x.2.2.2.2.1.length : Int)) (false = Pl.sumRight x)
 (condP (decide ((↑x.2.2.2.1.length : Int) < (1 : Int))) (false = Pl.sumRight x)
 (condP (decide ((↑x.2.2.2.1.length : Int) > (4 : Int))) (false = Pl.sumRight x)
 (condP (decide (x.2.2.2.2.2.1 < (-1000 : Int))) (false = Pl.sumRight x)
 (condP (decide (x.2.2.2.2.2.1 > (1000 : Int))) (false = Pl.sumRight x)
 ((∃ x_3 : Nat,
 (Pl.sumHead x = true ∧ x_3 ≤ x.2.2.2.1.length ∧ Pl.numOk Option.none x.2.2.2.1 x.2.2.2.2.1 =
 Pl.numOk (Pl.prevN x.2.2.2.1 x_3) (List.drop x_3 x.2.2.2.1) (List.drop x_3 x.2.2.2.2.1)) ∧ ((0 : Nat) = (0 : Nat) ∧ (0 : Int) = (↑x_3 : Int) ∧ True) ∧ (x.1 = x.1 ∧ x.2.1.1 = x.2.1.1 ∧ Is (terms x.2.1.2) (terms x.2.1.2) ∧ x.2.2.1.1 = x.2.2.1.1 ∧ Is (terms x.2.2.1.2) (terms x.2.2.1.2) ∧ Is (terms x.2.2.2.1) (terms x.2.2.2.1) ∧ Is (ints x.2.2.2.2.1) (ints x.2.2.2.2.1) ∧ x.2.2.2.2.2.1 = x.2.2.2.2.2.1 ∧ x.2.2.2.2.2.2 = x.2.2.2.2.2.2 ∧ True) ∧ True) ∧ ∀ (x_3 : Nat),
 Pl.sumHead x = true ∧ x_3 ≤ x.2.2.2.1.length ∧ Pl.numOk Option.none x.2.2.2.1 x.2.2.2.2.1 =
 Pl.numOk (Pl.prevN x.2.2.2.1 x_3) (List.drop x_3 x.2.2.2.1) (List.drop x_3 x.2.2.2.2.1) →
 condP (decide ((↑x_3 : Int) < (↑x.2.2.2.1.length : Int)))
 (((0 : Int) ≤ (↑x_3 : Int) ∧ (↑x_3 : Int) < (↑x.2.2.2.2.1.length : Int)) ∧ x_3 < x.2.2.2.2.1.length ∧ ((0 : Int) ≤ (↑x_3 : Int) ∧ (↑x_3 : Int) < (↑x.2.2.2.1.length : Int)) ∧ x_3 < x.2.2.2.1.length ∧ ∃ x_4 : Pl.TP,
 ((Pl.Tree.val (x.2.2.2.1.getD x_3 Pl.dT) = x_4.1 ∧ Is (kidsT (x.2.2.2.1.getD x_3 Pl.dT)) (terms x_4.2) ∧ True) ∧ True) ∧ SmT (Pl.Tree.mk x_4.1 x_4.2) ∧ condP (!Pl.right (Pl.Tree.mk x_4.1 x_4.2)) (false = Pl.sumRight x)
 (condP (x.2.2.2.2.1.getD x_3 (0 : Int) == (0 : Int)) (false = Pl.sumRight x)
 (condP (decide (x.2.2.2.2.1.getD x_3 (0 : Int) < (-50 : Int))) (false = Pl.sumRight x)
 (condP (decide (x.2.2.2.2.1.getD x_3 (0 : Int) > (50 : Int))) (false = Pl.sumRight x)
 (condP (decide ((↑x_3 : Int) > (0 : Int)))
 (((0 : Int) ≤ IntKind.i64.wrap ((↑x_3 : Int) - (1 : Int)) ∧ IntKind.i64.wrap ((↑x_3 : Int) - (1 : Int)) < (↑x.2.2.2.1.length : Int)) ∧ (IntKind.i64.wrap ((↑x_3 : Int) - (1 : Int))).toNat < x.2.2.2.1.length ∧ ∃ x_5 : Pl.TP,
 ((Pl.Tree.val (x.2.2.2.1.getD (IntKind.i64.wrap ((↑x_3 : Int) - (1 : Int))).toNat Pl.dT) = x_5.1 ∧ Is (kidsT (x.2.2.2.1.getD (IntKind.i64.wrap ((↑x_3 : Int) - (1 : Int))).toNat Pl.dT)) (terms x_5.2) ∧ True) ∧ True) ∧ SmT (Pl.Tree.mk x_5.1 x_5.2) ∧ ((0 : Int) ≤ (↑x_3 : Int) ∧ (↑x_3 : Int) < (↑x.2.2.2.1.length : Int)) ∧ x_3 < x.2.2.2.1.length ∧ ∃ x_6 : Pl.TP,
 ((Pl.Tree.val (x.2.2.2.1.getD x_3 Pl.dT) = x_6.1 ∧ Is (kidsT (x.2.2.2.1.getD x_3 Pl.dT)) (terms x_6.2) ∧ True) ∧ True) ∧ SmT (Pl.Tree.mk x_6.1 x_6.2) ∧ condP (!Op.bytesLess (Pl.textT (Pl.Tree.mk x_5.1 x_5.2)).toList (Pl.textT (Pl.Tree.mk x_6.1 x_6.2)).toList)
 (false = Pl.sumRight x)
 (Exists fun (x' : Nat) =>
 (Pl.sumHead x = true ∧ x' ≤ x.2.2.2.1.length ∧ Pl.numOk Option.none x.2.2.2.1 x.2.2.2.2.1 =
 Pl.numOk (Pl.prevN x.2.2.2.1 x') (List.drop x' x.2.2.2.1)
 (List.drop x' x.2.2.2.2.1)) ∧ x.2.2.2.1.length - x' < x.2.2.2.1.length - x_3 ∧ ((0 : Nat) = (0 : Nat) ∧ IntKind.i64.wrap ((↑x_3 : Int) + (1 : Int)) = (↑x' : Int) ∧ True) ∧ (x.1 = x.1 ∧ x.2.1.1 = x.2.1.1 ∧ Is (terms x.2.1.2) (terms x.2.1.2) ∧ x.2.2.1.1 = x.2.2.1.1 ∧ Is (terms x.2.2.1.2) (terms x.2.2.1.2) ∧ Is (terms x.2.2.2.1) (terms x.2.2.2.1) ∧ Is (ints x.2.2.2.2.1) (ints x.2.2.2.2.1) ∧ x.2.2.2.2.2.1 = x.2.2.2.2.2.1 ∧ x.2.2.2.2.2.2 = x.2.2.2.2.2.2 ∧ True) ∧ True))
 (Exists fun (x' : Nat) =>
 (Pl.sumHead x = true ∧ x' ≤ x.2.2.2.1.length ∧ Pl.numOk Option.none x.2.2.2.1 x.2.2.2.2.1 =
 Pl.numOk (Pl.prevN x.2.2.2.1 x') (List.drop x' x.2.2.2.1) (List.drop x' x.2.2.2.2.1)) ∧ x.2.2.2.1.length - x' < x.2.2.2.1.length - x_3 ∧ ((0 : Nat) = (0 : Nat) ∧ IntKind.i64.wrap ((↑x_3 : Int) + (1 : Int)) = (↑x' : Int) ∧ True) ∧ (x.1 = x.1 ∧ x.2.1.1 = x.2.1.1 ∧ Is (terms x.2.1.2) (terms x.2.1.2) ∧ x.2.2.1.1 = x.2.2.1.1 ∧ Is (terms x.2.2.1.2) (terms x.2.2.1.2) ∧ Is (terms x.2.2.2.1) (terms x.2.2.2.1) ∧ Is (ints x.2.2.2.2.1) (ints x.2.2.2.2.1) ∧ x.2.2.2.2.2.1 = x.2.2.2.2.2.1 ∧ x.2.2.2.2.2.2 = x.2.2.2.2.2.2 ∧ True) ∧ True))))))
 (true = Pl.sumRight x))))))))) = Goal Tryz.prog [K_l6None, K_l4Right, K_lText] (A_l6Sum x) K_l6Sum.1 K_l6Sum.2 (x) := by kernel_rfl

theorem vc_l6Right (x : Pl.Atm) : (condP (x.1 == (2 : Int))
 (∃ x_1 : Pl.Atm,
 ((x.1 = x_1.1 ∧ x.2.1.1 = x_1.2.1.1 ∧ Is (terms x.2.1.2) (terms x_1.2.1.2) ∧ x.2.2.1.1 = x_1.2.2.1.1 ∧ Is (terms x.2.2.1.2) (terms x_1.2.2.1.2) ∧ Is (terms x.2.2.2.1) (terms x_1.2.2.2.1) ∧ Is (ints x.2.2.2.2.1) (ints x_1.2.2.2.2.1) ∧ x.2.2.2.2.2.1 = x_1.2.2.2.2.2.1 ∧ x.2.2.2.2.2.2 = x_1.2.2.2.2.2.2 ∧ True) ∧ True) ∧ SmA x_1 ∧ Pl.sumRight x_1 = Pl.atomRight x)
 (condP (x.1 == (1 : Int))
 (∃ x_1 : Pl.TP,
 ((x.2.1.1 = x_1.1 ∧ Is (terms x.2.1.2) (terms x_1.2) ∧ True) ∧ True) ∧ SmT (Pl.Tree.mk x_1.1 x_1.2) ∧ condP (Pl.right (Pl.Tree.mk x_1.1 x_1.2))
 (∃ x_2 : Pl.TP,
 ((x.2.2.1.1 = x_2.1 ∧ Is (terms x.2.2.1.2) (terms x_2.2) ∧ True) ∧ True) ∧ SmT (Pl.Tree.mk x_2.1 x_2.2) ∧ condP (Pl.right (Pl.Tree.mk x_2.1 x_2.2))
 (condP ((↑x.2.2.2.1.length : Int) == (0 : Int))
 (condP ((↑x.2.2.2.2.1.length : Int) == (0 : Int))
 (condP (x.2.2.2.2.2.1 == (0 : Int)) ((!x.2.2.2.2.2.2) = Pl.atomRight x) (false = Pl.atomRight x)) (false = Pl.atomRight x))
 (false = Pl.atomRight x))
 (false = Pl.atomRight x))
 (false = Pl.atomRight x))
 (false = Pl.atomRight x))) = Goal Tryz.prog [K_l6Sum, K_l4Right] ([]) K_l6Right.1 K_l6Right.2 (x) := by kernel_rfl

theorem vc_Atomok (x : Pl.Atm) : (condP (x.1 == (1 : Int))
 (∃ x_1 : Pl.TP,
 ((x.2.1.1 = x_1.1 ∧ Is (terms x.2.1.2) (terms x_1.2) ∧ True) ∧ True) ∧ SmT (Pl.Tree.mk x_1.1 x_1.2) ∧ condP (Pl.right (Pl.Tree.mk x_1.1 x_1.2))
 (∃ x_2 : Pl.TP,
 ((x.2.2.1.1 = x_2.1 ∧ Is (terms x.2.2.1.2) (terms x_2.2) ∧ True) ∧ True) ∧ SmT (Pl.Tree.mk x_2.1 x_2.2) ∧ condP (Pl.right (Pl.Tree.mk x_2.1 x_2.2))
 (condP ((↑x.2.2.2.1.length : Int) == (0 : Int))
 (condP ((↑x.2.2.2.2.1.length : Int) == (0 : Int))
 (condP (x.2.2.2.2.2.1 == (0 : Int)) ((!x.2.2.2.2.2.2) = Pl.atomRight x) (false = Pl.atomRight x)) (false = Pl.atomRight x))
 (false = Pl.atomRight x))
 (false = Pl.atomRight x))
 (false = Pl.atomRight x))
 (condP (x.1 == (2 : Int))
 (∃ x_1 : Pl.TP,
 ((x.2.1.1 = x_1.1 ∧ Is (terms x.2.1.2) (terms x_1.2) ∧ True) ∧ True) ∧ True ∧ condP (!Pl.noneT x_1) (false = Pl.atomRight x)
 (∃ x_2 : Pl.TP,
 ((x.2.2.1.1 = x_2.1 ∧ Is (terms x.2.2.1.2) (terms x_2.2) ∧ True) ∧ True) ∧ True ∧ condP (!Pl.noneT x_2) (false = Pl.atomRight x)
 (∃ x_3 : Int × Int × Int,
 ((↑x.2.2.2.1.length : Int) = x_3.1 ∧ (1 : Int) = x_3.2.1 ∧ (4 : Int) = x_3.2.2 ∧ True) ∧ True ∧ condP (!Pl.withinI x_3.1 x_3.2.1 x_3.2.2) (false = Pl.atomRight x)
 (condP ((↑x.2.2.2.2.1.length : Int) != (↑x.2.2.2.1.length : Int)) (false = Pl.atomRight x)
 (∃ x_4 : Int × Int × Int,
 (x.2.2.2.2.2.1 = x_4.1 ∧ (-1000 : Int) = x_4.2.1 ∧ (1000 : Int) = x_4.2.2 ∧ True) ∧ True ∧ condP (!Pl.withinI x_4.1 x_4.2.1 x_4.2.2) (false = Pl.atomRight x)
 ((∃ x_5 : Nat,
 (x.1 = (2 : Int) ∧ Pl.sumHead x = true ∧ x_5 ≤ x.2.2.2.1.length ∧ Pl.numOk Option.none x.2.2.2.1 x.2.2.2.2.1 =
 Pl.numOk (Pl.prevN x.2.2.2.1 x_5) (List.drop x_5 x.2.2.2.1) (List.drop x_5 x.2.2.2.2.1)) ∧ ((0 : Nat) = (0 : Nat) ∧ Is (terms x.2.2.2.1) (terms x.2.2.2.1) ∧ (↑x.2.2.2.1.length : Int) = (↑x.2.2.2.1.length : Int) ∧ (0 : Int) = (↑x_5 : Int) ∧ True) ∧ (x.1 = x.1 ∧ x.2.1.1 = x.2.1.1 ∧ Is (terms x.2.1.2) (terms x.2.1.2) ∧ x.2.2.1.1 = x.2.2.1.1 ∧ Is (terms x.2.2.1.2) (terms x.2.2.1.2) ∧ Is (terms x.2.2.2.1) (terms x.2.2.2.1) ∧ Is (ints x.2.2.2.2.1) (ints x.2.2.2.2.1) ∧ x.2.2.2.2.2.1 = x.2.2.2.2.2.1 ∧ x.2.2.2.2.2.2 = x.2.2.2.2.2.2 ∧ True) ∧ True) ∧ ∀ (x_5 : Nat),
 x.1 = (2 : Int) ∧ Pl.sumHead x = true ∧ x_5 ≤ x.2.2.2.1.length ∧ Pl.numOk Option.none x.2.2.2.1 x.2.2.2.2.1 =
 Pl.numOk (Pl.prevN x.2.2.2.1 x_5) (List.drop x_5 x.2.2.2.1) (List.drop x_5 x.2.2.2.2.1) →
 condP (decide ((↑x_5 : Int) < (↑x.2.2.2.1.length : Int)))
 (((0 : Int) ≤ (↑x_5 : Int) ∧ (↑x_5 : Int) < (↑x.2.2.2.1.length : Int)) ∧ x_5 < x.2.2.2.1.length ∧ ∃ x_6 : Pl.TP,
 ((Pl.Tree.val (x.2.2.2.1.getD x_5 Pl.dT) = x_6.1 ∧ Is (kidsT (x.2.2.2.1.getD x_5 Pl.dT)) (terms x_6.2) ∧ True) ∧ True) ∧ SmT (Pl.Tree.mk x_6.1 x_6.2) ∧ condP (!Pl.right (Pl.Tree.mk x_6.1 x_6.2)) (false = Pl.atomRight x)
 (((0 : Int) ≤ (↑x_5 : Int) ∧ (↑x_5 : Int) < (↑x.2.2.2.2.1.length : Int)) ∧ x_5 < x.2.2.2.2.1.length ∧ ∃ x_7 : Int × Int × Int,
 (x.2.2.2.2.1.getD x_5 (0 : Int) = x_7.1 ∧ (-50 : Int) = x_7.2.1 ∧ (50 : Int) = x_7.2.2 ∧ True) ∧ True ∧ condP (!Pl.withinI x_7.1 x_7.2.1 x_7.2.2) (false = Pl.atomRight x)
 (((0 : Int) ≤ (↑x_5 : Int) ∧ (↑x_5 : Int) < (↑x.2.2.2.2.1.length : Int)) ∧ x_5 < x.2.2.2.2.1.length ∧ condP (x.2.2.2.2.1.getD x_5 (0 : Int) == (0 : Int)) (false = Pl.atomRight x)
 (condP (decide ((↑x_5 : Int) > (0 : Int)))
 (((0 : Int) ≤ IntKind.i64.wrap ((↑x_5 : Int) - (1 : Int)) ∧ IntKind.i64.wrap ((↑x_5 : Int) - (1 : Int)) < (↑x.2.2.2.1.length : Int)) ∧ (IntKind.i64.wrap ((↑x_5 : Int) - (1 : Int))).toNat < x.2.2.2.1.length ∧ ∃ x_8 : Pl.TP,
 ((Pl.Tree.val (x.2.2.2.1.getD (IntKind.i64.wrap ((↑x_5 : Int) - (1 : Int))).toNat Pl.dT) = x_8.1 ∧ Is (kidsT (x.2.2.2.1.getD (IntKind.i64.wrap ((↑x_5 : Int) - (1 : Int))).toNat Pl.dT))
 (terms x_8.2) ∧ True) ∧ True) ∧ SmT (Pl.Tree.mk x_8.1 x_8.2) ∧ ∃ x_9 : Pl.TP,
 ((Pl.Tree.val (x.2.2.2.1.getD x_5 Pl.dT) = x_9.1 ∧ Is (kidsT (x.2.2.2.1.getD x_5 Pl.dT)) (terms x_9.2) ∧ True) ∧ True) ∧ SmT (Pl.Tree.mk x_9.1 x_9.2) ∧ condP
 (!Op.bytesLess (Pl.textT (Pl.Tree.mk x_8.1 x_8.2)).toList
 (Pl.textT (Pl.Tree.mk x_9.1 x_9.2)).toList)
 (false = Pl.atomRight x)
 (Exists fun (x' : Nat) =>
 (x.1 = (2 : Int) ∧ Pl.sumHead x = true ∧ x' ≤ x.2.2.2.1.length ∧ Pl.numOk Option.none x.2.2.2.1 x.2.2.2.2.1 =
 Pl.numOk (Pl.prevN x.2.2.2.1 x') (List.drop x' x.2.2.2.1)
 (List.drop x' x.2.2.2.2.1)) ∧ x.2.2.2.1.length - x' < x.2.2.2.1.length - x_5 ∧ ((0 : Nat) = (0 : Nat) ∧ Is (terms x.2.2.2.1) (terms x.2.2.2.1) ∧ (↑x.2.2.2.1.length : Int) = (↑x.2.2.2.1.length : Int) ∧ IntKind.i64.wrap ((↑x_5 : Int) + (1 : Int)) = (↑x' : Int) ∧ True) ∧ (x.1 = x.1 ∧ x.2.1.1 = x.2.1.1 ∧ Is (terms x.2.1.2) (terms x.2.1.2) ∧ x.2.2.1.1 = x.2.2.1.1 ∧ Is (terms x.2.2.1.2) (terms x.2.2.1.2) ∧ Is (terms x.2.2.2.1) (terms x.2.2.2.1) ∧ Is (ints x.2.2.2.2.1) (ints x.2.2.2.2.1) ∧ x.2.2.2.2.2.1 = x.2.2.2.2.2.1 ∧ x.2.2.2.2.2.2 = x.2.2.2.2.2.2 ∧ True) ∧ True))
 (Exists fun (x' : Nat) =>
 (x.1 = (2 : Int) ∧ Pl.sumHead x = true ∧ x' ≤ x.2.2.2.1.length ∧ Pl.numOk Option.none x.2.2.2.1 x.2.2.2.2.1 =
 Pl.numOk (Pl.prevN x.2.2.2.1 x') (List.drop x' x.2.2.2.1)
 (List.drop x' x.2.2.2.2.1)) ∧ x.2.2.2.1.length - x' < x.2.2.2.1.length - x_5 ∧ ((0 : Nat) = (0 : Nat) ∧ Is (terms x.2.2.2.1) (terms x.2.2.2.1) ∧ (↑x.2.2.2.1.length : Int) = (↑x.2.2.2.1.length : Int) ∧ IntKind.i64.wrap ((↑x_5 : Int) + (1 : Int)) = (↑x' : Int) ∧ True) ∧ (x.1 = x.1 ∧ x.2.1.1 = x.2.1.1 ∧ Is (terms x.2.1.2) (terms x.2.1.2) ∧ x.2.2.1.1 = x.2.2.1.1 ∧ Is (terms x.2.2.1.2) (terms x.2.2.1.2) ∧ Is (terms x.2.2.2.1) (terms x.2.2.2.1) ∧ Is (ints x.2.2.2.2.1) (ints x.2.2.2.2.1) ∧ x.2.2.2.2.2.1 = x.2.2.2.2.2.1 ∧ x.2.2.2.2.2.2 = x.2.2.2.2.2.2 ∧ True) ∧ True)))))
 (true = Pl.atomRight x)))))))
 (false = Pl.atomRight x))) = Goal Tryz.prog [K_isTerm, K_isNone, K_within, K_tText] (A_Atomok x) K_Atomok.1 K_Atomok.2 (x) := by kernel_rfl

end Cg

/-
  What is left to show of each function's code, printed by a program: Mtm. No condition.
-/
set_option maxRecDepth 100000
set_option linter.unusedVariables false
namespace Cg
open Go Go.Proofs
end Cg

/-
  What is left to show of each function's code, printed by a program: Mok. No condition.
-/
set_option maxRecDepth 100000
set_option linter.unusedVariables false
namespace Cg
open Go Go.Proofs
end Cg

/-
  What is left to show of each function's code, printed by a program: Model. No condition.
-/
set_option maxRecDepth 100000
set_option linter.unusedVariables false
namespace Cg
open Go Go.Proofs
end Cg

/-
  What is left to show of each function's code, printed by a program: Tsort. No condition.
-/
set_option maxRecDepth 100000
set_option linter.unusedVariables false
namespace Cg
open Go Go.Proofs
theorem vc_l4Shape0 (x : Pl.TP) : (false = Pl.shape (0 : Nat) (Pl.Tree.mk x.1 x.2)) = Goal Tryz.prog [K_sNameOk] ([]) (K_l4Shape 0).1 (K_l4Shape 0).2 (x) := by kernel_rfl

theorem vc_l4Shape (n : Nat) (x : Pl.TP) : (∃ x_1 : ByteArray,
 (x.1 = x_1 ∧ True) ∧ x_1.size ≤ (1048576 : Nat) ∧ condP (!Pl.nameOk x_1) (false = Pl.shape (n + (1 : Nat)) (Pl.Tree.mk x.1 x.2))
 (condP (decide ((↑x.2.length : Int) > (2 : Int))) (false = Pl.shape (n + (1 : Nat)) (Pl.Tree.mk x.1 x.2))
 ((∃ x_2 : Nat,
 (x_2 ≤ x.2.length ∧ Pl.shape (n + (1 : Nat)) (Pl.Tree.mk x.1 x.2) = (List.drop x_2 x.2).all (Pl.shape n)) ∧ ((↑(n + (1 : Nat)) : Int) = (↑(n + (1 : Nat)) : Int) ∧ (0 : Nat) = (0 : Nat) ∧ (0 : Int) = (↑x_2 : Int) ∧ True) ∧ (x.1 = x.1 ∧ Is (terms x.2) (terms x.2) ∧ True) ∧ True) ∧ ∀ (x_2 : Nat),
 x_2 ≤ x.2.length ∧ Pl.shape (n + (1 : Nat)) (Pl.Tree.mk x.1 x.2) = (List.drop x_2 x.2).all (Pl.shape n) →
 condP (decide ((↑x_2 : Int) < (↑x.2.length : Int)))
 (((0 : Int) ≤ (↑x_2 : Int) ∧ (↑x_2 : Int) < (↑x.2.length : Int)) ∧ x_2 < x.2.length ∧ ∃ x_3 : Pl.TP,
 ((Pl.Tree.val (x.2.getD x_2 Pl.dT) = x_3.1 ∧ Is (kidsT (x.2.getD x_2 Pl.dT)) (terms x_3.2) ∧ True) ∧ IntKind.i64.wrap ((↑(n + (1 : Nat)) : Int) - (1 : Int)) = (↑n : Int) ∧ True) ∧ (SmT (Pl.Tree.mk x_3.1 x_3.2) ∧ n ≤ (10 : Nat)) ∧ condP (!Pl.shape n (Pl.Tree.mk x_3.1 x_3.2)) (false = Pl.shape (n + (1 : Nat)) (Pl.Tree.mk x.1 x.2))
 (Exists fun (x' : Nat) =>
 (x' ≤ x.2.length ∧ Pl.shape (n + (1 : Nat)) (Pl.Tree.mk x.1 x.2) = (List.drop x' x.2).all (Pl.shape n)) ∧ x.2.length - x' < x.2.length - x_2 ∧ ((↑(n + (1 : Nat)) : Int) = (↑(n + (1 : Nat)) : Int) ∧ (0 : Nat) = (0 : Nat) ∧ IntKind.i64.wrap ((↑x_2 : Int) + (1 : Int)) = (↑x' : Int) ∧ True) ∧ (x.1 = x.1 ∧ Is (terms x.2) (terms x.2) ∧ True) ∧ True))
 (true = Pl.shape (n + (1 : Nat)) (Pl.Tree.mk x.1 x.2))))) = Goal Tryz.prog [K_sNameOk, (K_l4Shape n)] (A_l4Shape n x.1 x.2) (K_l4Shape (n + 1)).1 (K_l4Shape (n + 1)).2 (x) := by kernel_rfl

theorem vc_l4Many0 (x : Pl.TP) : ((∃ x_1 : Unit,
 True ∧ ((↑(0 : Nat) : Int) = (0 : Int) ∧ (0 : Nat) = (0 : Nat) ∧ (1 : Int) = (1 : Int) ∧ (0 : Int) = (0 : Int) ∧ True) ∧ (x.1 = x.1 ∧ Is (terms x.2) (terms x.2) ∧ True) ∧ True) ∧ ∀ (x_1 : Unit),
 True →
 condP (decide ((0 : Int) < (↑x.2.length : Int))) ((1 : Int) = (↑(Pl.manyD (0 : Nat) (Pl.Tree.mk x.1 x.2)) : Int))
 ((1 : Int) = (↑(Pl.manyD (0 : Nat) (Pl.Tree.mk x.1 x.2)) : Int))) = Goal Tryz.prog [] (A_l4Many0 x.1 x.2) (K_l4Many 0).1 (K_l4Many 0).2 (x) := by kernel_rfl

theorem vc_l4Many (n : Nat) (x : Pl.TP) : ((∃ x_1 : Nat,
 x_1 ≤ x.2.length ∧ ((↑(n + (1 : Nat)) : Int) = (↑(n + (1 : Nat)) : Int) ∧ (0 : Nat) = (0 : Nat) ∧ (1 : Int) = (↑((1 : Nat) + Pl.sumN (Pl.manyD n) (List.take x_1 x.2)) : Int) ∧ (0 : Int) = (↑x_1 : Int) ∧ True) ∧ (x.1 = x.1 ∧ Is (terms x.2) (terms x.2) ∧ True) ∧ True) ∧ ∀ (x_1 : Nat),
 x_1 ≤ x.2.length →
 condP (decide ((↑x_1 : Int) < (↑x.2.length : Int)))
 (condP (decide ((↑(n + (1 : Nat)) : Int) > (0 : Int)))
 (((0 : Int) ≤ (↑x_1 : Int) ∧ (↑x_1 : Int) < (↑x.2.length : Int)) ∧ x_1 < x.2.length ∧ ∃ x_2 : Pl.TP,
 ((Pl.Tree.val (x.2.getD x_1 Pl.dT) = x_2.1 ∧ Is (kidsT (x.2.getD x_1 Pl.dT)) (terms x_2.2) ∧ True) ∧ IntKind.i64.wrap ((↑(n + (1 : Nat)) : Int) - (1 : Int)) = (↑n : Int) ∧ True) ∧ (SmT (Pl.Tree.mk x_2.1 x_2.2) ∧ n ≤ (10 : Nat)) ∧ Exists fun (x' : Nat) =>
 x' ≤ x.2.length ∧ x.2.length - x' < x.2.length - x_1 ∧ ((↑(n + (1 : Nat)) : Int) = (↑(n + (1 : Nat)) : Int) ∧ (0 : Nat) = (0 : Nat) ∧ IntKind.i64.wrap ((↑((1 : Nat) + Pl.sumN (Pl.manyD n) (List.take x_1 x.2)) : Int) + (↑(Pl.manyD n (Pl.Tree.mk x_2.1 x_2.2)) : Int)) =
 (↑((1 : Nat) + Pl.sumN (Pl.manyD n) (List.take x' x.2)) : Int) ∧ IntKind.i64.wrap ((↑x_1 : Int) + (1 : Int)) = (↑x' : Int) ∧ True) ∧ (x.1 = x.1 ∧ Is (terms x.2) (terms x.2) ∧ True) ∧ True)
 ((↑((1 : Nat) + Pl.sumN (Pl.manyD n) (List.take x_1 x.2)) : Int) = (↑(Pl.manyD (n + (1 : Nat)) (Pl.Tree.mk x.1 x.2)) : Int)))
 ((↑((1 : Nat) + Pl.sumN (Pl.manyD n) (List.take x_1 x.2)) : Int) = (↑(Pl.manyD (n + (1 : Nat)) (Pl.Tree.mk x.1 x.2)) : Int))) = Goal Tryz.prog [(K_l4Many n)] (A_l4Many n x.1 x.2) (K_l4Many (n + 1)).1 (K_l4Many (n + 1)).2 (x) := by kernel_rfl

theorem vc_l4Right (a : ByteArray) (b : List Pl.Tm) : (∃ x : Pl.TP,
 ((a = x.1 ∧ Is (terms b) (terms x.2) ∧ True) ∧ (4 : Int) = (↑(4 : Nat) : Int) ∧ True) ∧ (SmT (Pl.Tree.mk x.1 x.2) ∧ (4 : Nat) ≤ (10 : Nat)) ∧ condP (Pl.shape (4 : Nat) (Pl.Tree.mk x.1 x.2))
 (∃ x : Pl.TP,
 ((a = x.1 ∧ Is (terms b) (terms x.2) ∧ True) ∧ (4 : Int) = (↑(4 : Nat) : Int) ∧ True) ∧ (SmT (Pl.Tree.mk x.1 x.2) ∧ (4 : Nat) ≤ (10 : Nat)) ∧ decide ((↑(Pl.manyD (4 : Nat) (Pl.Tree.mk x.1 x.2)) : Int) ≤ (12 : Int)) = Pl.right (Pl.Tree.mk a b))
 (false = Pl.right (Pl.Tree.mk a b))) = Goal Tryz.prog [(K_l4Shape 4), (K_l4Many 4)] ([]) K_l4Right.1 K_l4Right.2 ((a, b)) := by kernel_rfl

theorem vc_termSize0 (x : Pl.TP) : (∃ x_1 : ByteArray,
 (x.1 = x_1 ∧ True) ∧ x_1.size ≤ (1048576 : Nat) ∧ condP (!Pl.nameOk x_1) ((13 : Int) = (↑(Pl.tsz (0 : Nat) (Pl.Tree.mk x.1 x.2)) : Int))
 (condP (decide ((↑x.2.length : Int) > (2 : Int))) ((13 : Int) = (↑(Pl.tsz (0 : Nat) (Pl.Tree.mk x.1 x.2)) : Int))
 ((13 : Int) = (↑(Pl.tsz (0 : Nat) (Pl.Tree.mk x.1 x.2)) : Int)))) = Goal Tryz.prog [K_iNameOk] ([]) (K_termSize 0).1 (K_termSize 0).2 (x) := by kernel_rfl

theorem vc_termSize (n : Nat) (x : Pl.TP) : (∃ x_1 : ByteArray,
 (x.1 = x_1 ∧ True) ∧ x_1.size ≤ (1048576 : Nat) ∧ condP (!Pl.nameOk x_1) ((13 : Int) = (↑(Pl.tsz (n + (1 : Nat)) (Pl.Tree.mk x.1 x.2)) : Int))
 (condP (decide ((↑x.2.length : Int) > (2 : Int))) ((13 : Int) = (↑(Pl.tsz (n + (1 : Nat)) (Pl.Tree.mk x.1 x.2)) : Int))
 (condP (decide ((5 : Int) - (↑(n + (1 : Nat)) : Int) > (4 : Int))) ((13 : Int) = (↑(Pl.tsz (n + (1 : Nat)) (Pl.Tree.mk x.1 x.2)) : Int))
 ((∃ x_2 : Nat,
 (x_2 ≤ x.2.length ∧ x.2.length ≤ (2 : Nat)) ∧ ((5 : Int) - (↑(n + (1 : Nat)) : Int) = (5 : Int) - (↑(n + (1 : Nat)) : Int) ∧ (0 : Nat) = (0 : Nat) ∧ (1 : Int) = (↑((1 : Nat) + Pl.sumN (Pl.tsz n) (List.take x_2 x.2)) : Int) ∧ Is (terms x.2) (terms x.2) ∧ (↑x.2.length : Int) = (↑x.2.length : Int) ∧ (0 : Int) = (↑x_2 : Int) ∧ True) ∧ (x.1 = x.1 ∧ Is (terms x.2) (terms x.2) ∧ True) ∧ True) ∧ ∀ (x_2 : Nat),
 x_2 ≤ x.2.length ∧ x.2.length ≤ (2 : Nat) →
 condP (decide ((↑x_2 : Int) < (↑x.2.length : Int)))
 (((0 : Int) ≤ (↑x_2 : Int) ∧ (↑x_2 : Int) < (↑x.2.length : Int)) ∧ x_2 < x.2.length ∧ ∃ x_3 : Pl.TP,
 ((Pl.Tree.val (x.2.getD x_2 Pl.dT) = x_3.1 ∧ Is (kidsT (x.2.getD x_2 Pl.dT)) (terms x_3.2) ∧ True) ∧ IntKind.i64.wrap ((5 : Int) - (↑(n + (1 : Nat)) : Int) + (1 : Int)) = (5 : Int) - (↑n : Int) ∧ True) ∧ (SmT (Pl.Tree.mk x_3.1 x_3.2) ∧ n ≤ (4 : Nat)) ∧ Exists fun (x' : Nat) =>
 (x' ≤ x.2.length ∧ x.2.length ≤ (2 : Nat)) ∧ x.2.length - x' < x.2.length - x_2 ∧ ((5 : Int) - (↑(n + (1 : Nat)) : Int) = (5 : Int) - (↑(n + (1 : Nat)) : Int) ∧ (0 : Nat) = (0 : Nat) ∧ IntKind.i64.wrap ((↑((1 : Nat) + Pl.sumN (Pl.tsz n) (List.take x_2 x.2)) : Int) + (↑(Pl.tsz n (Pl.Tree.mk x_3.1 x_3.2)) : Int)) =
 (↑((1 : Nat) + Pl.sumN (Pl.tsz n) (List.take x' x.2)) : Int) ∧ Is (terms x.2) (terms x.2) ∧ (↑x.2.length : Int) = (↑x.2.length : Int) ∧ IntKind.i64.wrap ((↑x_2 : Int) + (1 : Int)) = (↑x' : Int) ∧ True) ∧ (x.1 = x.1 ∧ Is (terms x.2) (terms x.2) ∧ True) ∧ True)
 ((↑((1 : Nat) + Pl.sumN (Pl.tsz n) (List.take x_2 x.2)) : Int) = (↑(Pl.tsz (n + (1 : Nat)) (Pl.Tree.mk x.1 x.2)) : Int)))))) = Goal Tryz.prog [K_iNameOk, (K_termSize n)] (A_termSize n x.1 x.2) (K_termSize (n + 1)).1 (K_termSize (n + 1)).2 (x) := by kernel_rfl

theorem vc_isTerm (a : ByteArray) (b : List Pl.Tm) : (∃ x : Pl.TP,
 ((a = x.1 ∧ Is (terms b) (terms x.2) ∧ True) ∧ (1 : Int) = (5 : Int) - (↑(4 : Nat) : Int) ∧ True) ∧ (SmT (Pl.Tree.mk x.1 x.2) ∧ (4 : Nat) ≤ (4 : Nat)) ∧ decide ((↑(Pl.tsz (4 : Nat) (Pl.Tree.mk x.1 x.2)) : Int) ≤ (12 : Int)) = Pl.right (Pl.Tree.mk a b)) = Goal Tryz.prog [(K_termSize 4)] ([]) K_isTerm.1 K_isTerm.2 ((a, b)) := by kernel_rfl

end Cg

/-
  What is left to show of each function's code, printed by a program: Sort. No condition.
-/
set_option maxRecDepth 100000
set_option linter.unusedVariables false
namespace Cg
open Go Go.Proofs
end Cg

/-
  What is left to show of each function's code, printed by a program: Sig. No condition.
-/
set_option maxRecDepth 100000
set_option linter.unusedVariables false
namespace Cg
open Go Go.Proofs
theorem vc_sNameOk (s : ByteArray) : ((∃ x : Nat, (x ≤ s.size ∧ (Pl.bs s).all Pl.lower = (List.drop x (Pl.bs s)).all Pl.lower) ∧ (s = s ∧ (0 : Int) = (↑x : Int) ∧ True) ∧ True) ∧ ∀ (x : Nat),
 x ≤ s.size ∧ (Pl.bs s).all Pl.lower = (List.drop x (Pl.bs s)).all Pl.lower →
 condP (decide ((↑x : Int) < (↑s.size : Int)))
 (((0 : Int) ≤ (↑x : Int) ∧ (↑x : Int) < (↑s.size : Int)) ∧ condP (decide ((↑(s.data.getD x (0 : UInt8)).toNat : Int) < (97 : Int))) (false = Pl.nameOk s)
 (((0 : Int) ≤ (↑x : Int) ∧ (↑x : Int) < (↑s.size : Int)) ∧ condP (decide ((↑(s.data.getD x (0 : UInt8)).toNat : Int) > (122 : Int))) (false = Pl.nameOk s)
 (Exists fun (x' : Nat) =>
 (x' ≤ s.size ∧ (Pl.bs s).all Pl.lower = (List.drop x' (Pl.bs s)).all Pl.lower) ∧ s.size - x' < s.size - x ∧ (s = s ∧ IntKind.i64.wrap ((↑x : Int) + (1 : Int)) = (↑x' : Int) ∧ True) ∧ True)))
 (condP (decide ((↑s.size : Int) ≥ (1 : Int))) (decide ((↑s.size : Int) ≤ (2 : Int)) = Pl.nameOk s) (false = Pl.nameOk s))) = Goal Tryz.prog [] (A_sNameOk s) K_sNameOk.1 K_sNameOk.2 (s) := by kernel_rfl

theorem vc_iNameOk (s : ByteArray) : (∃ x : Int × Int × Int,
 ((↑s.size : Int) = x.1 ∧ (1 : Int) = x.2.1 ∧ (2 : Int) = x.2.2 ∧ True) ∧ True ∧ condP (!Pl.withinI x.1 x.2.1 x.2.2) (false = Pl.nameOk s)
 ((∃ x : Nat, (x ≤ s.size ∧ (Pl.bs s).all Pl.lower = (List.drop x (Pl.bs s)).all Pl.lower) ∧ (s = s ∧ (↑s.size : Int) = (↑s.size : Int) ∧ (0 : Int) = (↑x : Int) ∧ True) ∧ True) ∧ ∀ (x : Nat),
 x ≤ s.size ∧ (Pl.bs s).all Pl.lower = (List.drop x (Pl.bs s)).all Pl.lower →
 condP (decide ((↑x : Int) < (↑s.size : Int)))
 (((0 : Int) ≤ (↑x : Int) ∧ (↑x : Int) < (↑s.size : Int)) ∧ condP (decide ((↑(s.data.getD x (0 : UInt8)).toNat : Int) < (97 : Int))) (false = Pl.nameOk s)
 (((0 : Int) ≤ (↑x : Int) ∧ (↑x : Int) < (↑s.size : Int)) ∧ condP (decide ((↑(s.data.getD x (0 : UInt8)).toNat : Int) > (122 : Int))) (false = Pl.nameOk s)
 (Exists fun (x' : Nat) =>
 (x' ≤ s.size ∧ (Pl.bs s).all Pl.lower = (List.drop x' (Pl.bs s)).all Pl.lower) ∧ s.size - x' < s.size - x ∧ (s = s ∧ (↑s.size : Int) = (↑s.size : Int) ∧ IntKind.i64.wrap ((↑x : Int) + (1 : Int)) = (↑x' : Int) ∧ True) ∧ True)))
 (true = Pl.nameOk s))) = Goal Tryz.prog [K_within] (A_iNameOk s) K_iNameOk.1 K_iNameOk.2 (s) := by kernel_rfl

end Cg

/-
  What is left to show of each function's code, printed by a program: Rows. No condition.
-/
set_option maxRecDepth 100000
set_option linter.unusedVariables false
namespace Cg
open Go Go.Proofs
end Cg

/-
  What is left to show of each function's code, printed by a program: Clause. No condition.
-/
set_option maxRecDepth 100000
set_option linter.unusedVariables false
namespace Cg
open Go Go.Proofs
theorem vc_within (x y z : Int) : (condP (decide (y ≤ x)) (decide (x ≤ z) = Pl.withinI x y z) (false = Pl.withinI x y z)) = Goal Tryz.prog [] ([]) K_within.1 K_within.2 ((x, y, z)) := by kernel_rfl

end Cg

/-
  The codes' contracts: clauses. No condition.
-/
set_option linter.unusedVariables false
set_option linter.unusedSimpArgs false
set_option maxRecDepth 100000
namespace Cg
open Go Go.Proofs

theorem hm : Tryz.prog.follows .mixedOrders = true := by kernel_rfl

theorem k_within : SoundC Tryz.prog K_within.1 K_within.2 := sound_of hm CtxOK.nil (fun _ => []) (by kernel_rfl) fun ((x, y, z) : Int × Int × Int) _ => cast (vc_within x y z) (by
  simp [Pl.withinI]
  omega)

theorem eq_step {α : Type} [DecidableEq α] (d : α) {l m : List α} {k : Nat} (hk : k < l.length) (hm : l.length = m.length) (he : l = m ↔ l.drop k = m.drop k) :
    (¬ l.getD k d = m.getD k d → ¬ l = m) ∧ (l.getD k d = m.getD k d → (l = m ↔ l.drop (k + 1) = m.drop (k + 1))) := by
  rw [drop_get d hk, drop_get (l := m) d (by omega)] at he
  exact ⟨fun h e => h (by have := he.1 e; injection this), fun h => by rw [he, h]; simp⟩

end Cg

/-
  The plain law of clauses: both ways to tell one give the same. No condition.
-/
set_option linter.unusedVariables false
set_option linter.unusedSimpArgs false
namespace Pl
open Go

end Pl


/-
  The codes' contracts: rows of rows, values of marks. No condition.
-/
set_option linter.unusedVariables false
set_option linter.unusedSimpArgs false
set_option maxRecDepth 100000
namespace Cg
open Go Go.Proofs

end Cg

/-
  The codes' contracts: words. No condition.
-/
set_option linter.unusedVariables false
set_option linter.unusedSimpArgs false
set_option maxRecDepth 100000
namespace Pl
open Go Cg
theorem bs_len (s : ByteArray) : (bs s).length = s.size := rfl
theorem data_getD (s : ByteArray) (k : Nat) : s.data.getD k 0 = (bs s).getD k 0 := by
  unfold bs
  rw [Array.getD_eq_getD_getElem?, List.getD_eq_getElem?_getD, Array.getElem?_toList]
theorem data_getE (s : ByteArray) (k : Nat) : s.data[k]?.getD 0 = (bs s).getD k 0 := by
  rw [← data_getD, Array.getD_eq_getD_getElem?]
theorem sumN_take {α : Type} (f : α → Nat) (d : α) {l : List α} {k : Nat} (h : k < l.length) : sumN f (l.take (k + 1)) = sumN f (l.take k) + f (l.getD k d) := by
  rw [List.take_succ_eq_append_getElem h]
  have : ∀ (m : List α) (x : α), sumN f (m ++ [x]) = sumN f m + f x := by
    intro m x
    induction m with
    | nil => simp [sumN]
    | cons y r ih => simp only [List.cons_append, sumN, ih]; omega
  rw [this]; simp [h]
theorem sumN_take_le {α : Type} (f : α → Nat) (l : List α) (k : Nat) : sumN f (l.take k) ≤ sumN f l := by
  induction l generalizing k with
  | nil => simp
  | cons x r ih =>
    cases k with
    | zero => simp [sumN]
    | succ k => simp only [List.take_succ_cons, sumN]; have := ih k; omega
theorem sumN_mem {α : Type} (f : α → Nat) {x : α} : ∀ {l : List α}, x ∈ l → f x ≤ sumN f l
  | y :: r, h => by
    simp only [sumN]
    cases List.mem_cons.1 h with
    | inl e => subst e; omega
    | inr e => have := sumN_mem f e; omega
end Pl
namespace Cg
open Go Go.Proofs Pl

theorem SmG.mem {s : Sig} (h : SmG s) {x : Sym} (hx : x ∈ s) : x.1.size ≤ 1048576 ∧ x.2.1.length ≤ 1048576 := by
  have h1 : s.length + sumN costY s ≤ 1048576 := h
  have h2 := sumN_mem costY hx
  have h3 : costY x = x.1.size + x.2.1.length := rfl
  omega
theorem SmG.len {s : Sig} (h : SmG s) : s.length ≤ 1048576 := by
  have h1 : s.length + sumN costY s ≤ 1048576 := h
  omega

theorem name_step {s : ByteArray} {k : Nat} (hk : k < s.size) (he : (bs s).all lower = ((bs s).drop k).all lower) :
    ((((bs s).getD k 0).toNat : Int) < 97 → nameOk s = false) ∧ (122 < (((bs s).getD k 0).toNat : Int) → nameOk s = false) ∧ (97 ≤ (((bs s).getD k 0).toNat : Int) → (((bs s).getD k 0).toNat : Int) ≤ 122 → (bs s).all lower = ((bs s).drop (k + 1)).all lower) := by
  rw [drop_get 0 (by rw [bs_len]; exact hk), List.all_cons] at he
  have no : lower ((bs s).getD k 0) = false → nameOk s = false := fun h => by
    unfold nameOk; rw [he, h]; simp
  refine ⟨fun h => no (by simp [lower, h, -List.getD_eq_getElem?_getD]), fun h => no (by simp [lower, h, -List.getD_eq_getElem?_getD]), fun h1 h2 => ?_⟩
  have : lower ((bs s).getD k 0) = true := by
    unfold lower; rw [decide_eq_false (by omega), decide_eq_false (by omega)]; rfl
  rw [he, this, Bool.true_and]

theorem k_sNameOk : SoundC Tryz.prog K_sNameOk.1 K_sNameOk.2 := sound_of hm CtxOK.nil A_sNameOk (by kernel_rfl) fun (s : ByteArray) hl => cast (vc_sNameOk s) (by
  replace hl : s.size ≤ 1048576 := hl
  simp [-List.getD_eq_getElem?_getD, -List.mem_cons, -Bool.forall_bool, -Bool.exists_bool, and_assoc, peta, tl_inj, ex_1, ex_2, ex_3, ex_4, ex_5, ex_6, ex_7, ex_8, ex_9, ey_2, ey_3, ey_4, ey_5, ey_6, ey_7, ey_8, ey_9]
  simp only [data_getE]
  refine ⟨⟨0, by simp, by simp, rfl⟩, fun k hk he => ⟨fun hlt => ?_, fun hge => ?_⟩⟩
  · obtain ⟨h1, h2, h3⟩ := name_step hlt he
    exact ⟨hlt, h1, fun h4 => ⟨hlt, h2, fun h5 => ⟨k + 1, hlt, h3 h4 h5, by omega, wrap_small (by omega) (by omega)⟩⟩⟩
  · rw [drop_end (by rw [bs_len]; omega)] at he
    unfold nameOk
    rw [he]
    refine ⟨fun h => ?_, fun h => ?_⟩
    · rw [decide_eq_true (by omega : 1 ≤ s.size)]; simp; omega
    · rw [decide_eq_false (by omega : ¬ 1 ≤ s.size)]; rfl)

theorem k_iNameOk : SoundC Tryz.prog K_iNameOk.1 K_iNameOk.2 := sound_of hm (CtxOK.nil.and k_within) A_iNameOk (by kernel_rfl) fun (s : ByteArray) hl => cast (vc_iNameOk s) (by
  replace hl : s.size ≤ 1048576 := hl
  simp [-List.getD_eq_getElem?_getD, -List.mem_cons, -Bool.forall_bool, -Bool.exists_bool, and_assoc, peta, tl_inj, ex_1, ex_2, ex_3, ex_4, ex_5, ex_6, ex_7, ex_8, ex_9, ey_2, ey_3, ey_4, ey_5, ey_6, ey_7, ey_8, ey_9]
  simp only [data_getE]
  refine ⟨fun h => ?_, fun h => ?_⟩
  · simp only [withinI, Bool.and_eq_false_iff, decide_eq_false_iff_not] at h
    unfold nameOk
    rcases h with h | h
    · rw [decide_eq_false (by omega : ¬ 1 ≤ s.size)]; rfl
    · rw [decide_eq_false (by omega : ¬ s.size ≤ 2)]; simp
  · simp only [withinI, Bool.and_eq_true, decide_eq_true_eq] at h
    refine ⟨⟨0, by simp, by simp, rfl⟩, fun k hk he => ⟨fun hlt => ?_, fun hge => ?_⟩⟩
    · obtain ⟨h1, h2, h3⟩ := name_step hlt he
      exact ⟨hlt, h1, fun h4 => ⟨hlt, h2, fun h5 => ⟨k + 1, hlt, h3 h4 h5, by omega, wrap_small (by omega) (by omega)⟩⟩⟩
    · rw [drop_end (by rw [bs_len]; omega)] at he
      unfold nameOk
      rw [he, decide_eq_true (by omega : 1 ≤ s.size), decide_eq_true (by omega : s.size ≤ 2)]
      rfl)

end Cg

/-
  The codes' contracts: terms. No condition.
-/
set_option linter.unusedVariables false
set_option linter.unusedSimpArgs false
set_option maxRecDepth 100000
set_option maxHeartbeats 4000000
namespace Pl
open Go Cg
theorem tparts' {t u : Tm} {p : Prop} : (t.val = u.val → t.kids = u.kids → p) ↔ (t = u → p) := ⟨fun h e => h (by rw [e]) (by rw [e]), fun h e1 e2 => h (Tree.ext e1 e2)⟩
theorem manyL_kids {l : List Tm} {t : Tm} (h : t ∈ l) : manyL t.kids < manyL l := by
  have := many_mem h
  have := t.many_eq
  omega
end Pl
namespace Cg
open Go Go.Proofs Pl
theorem SmTs.mem {l : List Tm} (h : SmTs l) {t : Tm} (ht : t ∈ l) : SmT t := by
  have := costT_mem ht
  have h1 : l.length + costTs l ≤ 1048576 := h
  show costT t ≤ 1048576
  omega
theorem SmTs.len {l : List Tm} (h : SmTs l) : l.length ≤ 1048576 := by
  have h1 : l.length + costTs l ≤ 1048576 := h
  omega
theorem SmT.kids {v : ByteArray} {ks : List Tm} (h : SmT (.mk v ks)) : SmTs ks := by
  have h1 : costT (.mk v ks) ≤ 1048576 := h
  rw [costT_eq] at h1
  simp only [Tree.val, Tree.kids] at h1
  show ks.length + costTs ks ≤ 1048576
  omega

end Cg

/-
  The codes' contracts: the sorts of terms. No condition.
-/
set_option linter.unusedVariables false
set_option linter.unusedSimpArgs false
set_option maxRecDepth 100000
set_option maxHeartbeats 1000000
namespace Pl
open Go Cg
theorem sumN_congr {α : Type} {f g : α → Nat} : ∀ {l : List α}, (∀ x ∈ l, f x = g x) → sumN f l = sumN g l
  | [], _ => rfl
  | x :: r, h => by simp only [sumN]; rw [h x List.mem_cons_self, sumN_congr fun y hy => h y (List.mem_cons_of_mem _ hy)]
theorem sumN_le {α : Type} {f : α → Nat} {b : Nat} : ∀ {l : List α}, (∀ x ∈ l, f x ≤ b) → sumN f l ≤ l.length * b
  | [], _ => Nat.zero_le _
  | x :: r, h => by
    simp only [sumN, List.length_cons, Nat.add_mul, Nat.one_mul]
    have := h x List.mem_cons_self
    have := sumN_le (l := r) fun y hy => h y (List.mem_cons_of_mem _ hy)
    omega
theorem tsz_shape : ∀ (n : Nat) (t : Tm), (shape n t = true → tsz n t = manyD n t) ∧ (shape n t = false → 13 ≤ tsz n t)
  | 0, t => ⟨fun h => (by simp [shape] at h), fun _ => Nat.le_refl _⟩
  | n + 1, t => by
    simp only [shape, tsz, manyD]
    cases h1 : nameOk t.val
    · simp
    · by_cases h2 : t.kids.length ≤ 2
      · have h2' : ¬ t.kids.length > 2 := by omega
        rw [decide_eq_true h2, decide_eq_false h2']
        simp only [Bool.not_true, Bool.or_self, Bool.false_eq_true, if_false, Bool.and_self, Bool.true_and]
        refine ⟨fun h => ?_, fun h => ?_⟩
        · rw [sumN_congr fun x hx => (tsz_shape n x).1 (List.all_eq_true.1 h x hx)]
        · obtain ⟨x, hx, h3⟩ := List.all_eq_false.1 h
          have h4 := (tsz_shape n x).2 (by simpa using h3)
          have h5 := sumN_mem (tsz n) hx
          omega
      · have h2' : t.kids.length > 2 := by omega
        rw [decide_eq_false h2, decide_eq_true h2']
        simp
theorem isTerm_right (t : Tm) : isTerm t = right t := by
  obtain ⟨h1, h2⟩ := tsz_shape 4 t
  unfold isTerm right
  cases h : shape 4 t
  · rw [Bool.false_and]; exact decide_eq_false (by have := h2 h; omega)
  · rw [h1 h, Bool.true_and]
theorem tsz_le : ∀ (n : Nat) (t : Tm), tsz n t + 1 ≤ 14 * 2 ^ n
  | 0, t => by simp [tsz]
  | n + 1, t => by
    have h0 : 1 ≤ 2 ^ n := Nat.one_le_two_pow
    simp only [tsz, Nat.pow_succ]
    split
    · omega
    · rename_i h
      have h2 : t.kids.length ≤ 2 := by
        simp only [Bool.or_eq_true, decide_eq_true_eq] at h; omega
      have h3 : sumN (tsz n) t.kids ≤ t.kids.length * (14 * 2 ^ n - 1) := sumN_le fun x _ => by have := tsz_le n x; omega
      have h4 : t.kids.length * (14 * 2 ^ n - 1) ≤ 2 * (14 * 2 ^ n - 1) := Nat.mul_le_mul_right _ h2
      omega
theorem manyD_le : ∀ (n : Nat) (t : Tm), manyD n t ≤ 1 + costT t
  | 0, t => by simp [manyD]
  | n + 1, t => by
    simp only [manyD]
    rw [costT_eq]
    have : ∀ l : List Tm, sumN (manyD n) l ≤ l.length + costTs l := by
      intro l
      induction l with
      | nil => simp [sumN]
      | cons x r ih => simp only [sumN, costTs, List.length_cons]; have := manyD_le n x; omega
    have := this t.kids
    omega
end Pl
namespace Cg
open Go Go.Proofs Pl

theorem tm_size {a : ByteArray} {b : List Tm} (h : SmT (.mk a b)) : a.size ≤ 1048576 ∧ b.length ≤ 1048576 := by
  have h1 : costT (.mk a b) ≤ 1048576 := h
  rw [costT_eq] at h1
  simp only [Tree.val, Tree.kids] at h1
  omega

theorem k_l4Shape (n : Nat) : SoundC Tryz.prog (K_l4Shape n).1 (K_l4Shape n).2 := by
  induction n with
  | zero => exact sound_of hm (CtxOK.nil.and k_sNameOk) (fun _ => []) (by kernel_rfl) fun (x : TP) hl => (by
      rw [← vc_l4Shape0 x]
      simp [-List.getD_eq_getElem?_getD, -List.mem_cons, -Bool.forall_bool, -Bool.exists_bool, and_assoc, peta, tl_inj, ex_1, ex_2, ex_3, ex_4, ex_5, ex_6, ex_7, ex_8, ex_9, ey_2, ey_3, ey_4, ey_5, ey_6, ey_7, ey_8, ey_9]
      rfl)
  | succ n ih => exact sound_of hm ((CtxOK.nil.and (K := K_l4Shape n) ih).and k_sNameOk) (fun x => A_l4Shape n x.1 x.2) (by kernel_rfl) fun (x : TP) hl => (by
      have h1 : SmT (.mk x.1 x.2) := hl.1
      have hn : n + 1 ≤ 10 := hl.2
      clear hl
      rw [← vc_l4Shape n x]
      obtain ⟨a, b⟩ := x
      dsimp only at *
      simp [-List.getD_eq_getElem?_getD, -List.mem_cons, -Bool.forall_bool, -Bool.exists_bool, and_assoc, peta, tl_inj, ex_1, ex_2, ex_3, ex_4, ex_5, ex_6, ex_7, ex_8, ex_9, ey_2, ey_3, ey_4, ey_5, ey_6, ey_7, ey_8, ey_9]
      obtain ⟨t1, t2⟩ := tm_size h1
      have k1 := (SmT.kids h1).len
      have e : Pl.shape (n + 1) (Tree.mk a b) = (nameOk a && decide (b.length ≤ 2) && b.all (Pl.shape n)) := rfl
      refine ⟨t1, fun h => by rw [e, h]; rfl, fun h => ⟨fun h2 => by rw [e, decide_eq_false (by omega)]; simp, fun h2 => ⟨⟨0, by simp, by rw [e, h, decide_eq_true (by omega)]; simp, rfl⟩, fun k hk he => ⟨fun hlt => ?_, fun hge => by rw [he, drop_end (by omega)]; rfl⟩⟩⟩⟩
      rw [drop_get dT hlt, List.all_cons] at he
      exact ⟨hlt, wrap_small (by omega) (by omega), (SmT.kids h1).mem (getD_mem dT hlt), by omega, fun h3 => by rw [he, h3]; rfl, fun h3 => ⟨k + 1, hlt, by rw [he, h3, Bool.true_and], by omega, wrap_small (by omega) (by omega)⟩⟩)

theorem k_l4Many (n : Nat) : SoundC Tryz.prog (K_l4Many n).1 (K_l4Many n).2 := by
  induction n with
  | zero => exact sound_of hm CtxOK.nil (fun x => A_l4Many0 x.1 x.2) (by kernel_rfl) fun (x : TP) hl => (by
      clear hl
      rw [← vc_l4Many0 x]
      obtain ⟨a, b⟩ := x
      dsimp only at *
      simp [-List.getD_eq_getElem?_getD, -List.mem_cons, -Bool.forall_bool, -Bool.exists_bool, and_assoc, peta, tl_inj, ex_1, ex_2, ex_3, ex_4, ex_5, ex_6, ex_7, ex_8, ex_9, ey_2, ey_3, ey_4, ey_5, ey_6, ey_7, ey_8, ey_9]
      simp [manyD])
  | succ n ih => exact sound_of hm (CtxOK.nil.and (K := K_l4Many n) ih) (fun x => A_l4Many n x.1 x.2) (by kernel_rfl) fun (x : TP) hl => (by
      have h1 : SmT (.mk x.1 x.2) := hl.1
      have hn : n + 1 ≤ 10 := hl.2
      clear hl
      rw [← vc_l4Many n x]
      obtain ⟨a, b⟩ := x
      dsimp only at *
      simp [-List.getD_eq_getElem?_getD, -List.mem_cons, -Bool.forall_bool, -Bool.exists_bool, and_assoc, peta, tl_inj, ex_1, ex_2, ex_3, ex_4, ex_5, ex_6, ex_7, ex_8, ex_9, ey_2, ey_3, ey_4, ey_5, ey_6, ey_7, ey_8, ey_9]
      have k1 := (SmT.kids h1).len
      have bnd : ∀ k, 1 + sumN (manyD n) (b.take k) ≤ 1 + costT (.mk a b) := fun k => by
        have := sumN_take_le (manyD n) b k
        have h2 := manyD_le (n + 1) (.mk a b)
        simp only [manyD, Tree.kids] at h2
        omega
      have h1' : costT (.mk a b) ≤ 1048576 := h1
      refine ⟨⟨0, by simp, by simp [sumN], rfl⟩, fun k hk => ⟨fun hlt => ?_, fun hge => ?_⟩⟩
      · have ht := sumN_take (manyD n) dT hlt
        have := bnd (k + 1)
        exact ⟨hlt, wrap_small (by omega) (by omega), (SmT.kids h1).mem (getD_mem dT hlt), by omega, k + 1, hlt, by omega, by rw [wrap_small (by omega) (by omega), ht]; omega, wrap_small (by omega) (by omega)⟩
      · rw [List.take_of_length_le hge]; simp [manyD])

theorem k_l4Right : SoundC Tryz.prog K_l4Right.1 K_l4Right.2 := sound_of hm ((CtxOK.nil.and (K := K_l4Many 4) (k_l4Many 4)).and (K := K_l4Shape 4) (k_l4Shape 4)) (fun _ => []) (by kernel_rfl) fun (a, b) hl => cast (vc_l4Right a b) (by
  replace hl : SmT (.mk a b) := hl
  simp [-List.getD_eq_getElem?_getD, -List.mem_cons, -Bool.forall_bool, -Bool.exists_bool, and_assoc, peta, tl_inj, ex_1, ex_2, ex_3, ex_4, ex_5, ex_6, ex_7, ex_8, ex_9, ey_2, ey_3, ey_4, ey_5, ey_6, ey_7, ey_8, ey_9]
  exact ⟨hl, fun h => ⟨hl, by unfold right; rw [h, Bool.true_and]; congr 1; simp only [eq_iff_iff]; omega⟩, fun h => by unfold right; rw [h]; rfl⟩)
theorem k_termSize (n : Nat) : SoundC Tryz.prog (K_termSize n).1 (K_termSize n).2 := by
  induction n with
  | zero => exact sound_of hm (CtxOK.nil.and k_iNameOk) (fun _ => []) (by kernel_rfl) fun (x : TP) hl => (by
      have h1 : SmT (.mk x.1 x.2) := hl.1
      clear hl
      rw [← vc_termSize0 x]
      obtain ⟨a, b⟩ := x
      dsimp only at *
      simp [-List.getD_eq_getElem?_getD, -List.mem_cons, -Bool.forall_bool, -Bool.exists_bool, and_assoc, peta, tl_inj, ex_1, ex_2, ex_3, ex_4, ex_5, ex_6, ex_7, ex_8, ex_9, ey_2, ey_3, ey_4, ey_5, ey_6, ey_7, ey_8, ey_9]
      exact ⟨(tm_size h1).1, fun _ => rfl, fun _ => ⟨fun _ => rfl, fun _ => rfl⟩⟩)
  | succ n ih => exact sound_of hm ((CtxOK.nil.and (K := K_termSize n) ih).and k_iNameOk) (fun x => A_termSize n x.1 x.2) (by kernel_rfl) fun (x : TP) hl => (by
      have h1 : SmT (.mk x.1 x.2) := hl.1
      have hn : n + 1 ≤ 4 := hl.2
      clear hl
      rw [← vc_termSize n x]
      obtain ⟨a, b⟩ := x
      dsimp only at *
      simp [-List.getD_eq_getElem?_getD, -List.mem_cons, -Bool.forall_bool, -Bool.exists_bool, and_assoc, peta, tl_inj, ex_1, ex_2, ex_3, ex_4, ex_5, ex_6, ex_7, ex_8, ex_9, ey_2, ey_3, ey_4, ey_5, ey_6, ey_7, ey_8, ey_9]
      obtain ⟨t1, t2⟩ := tm_size h1
      have et : tsz (n + 1) (.mk a b) = if (!nameOk a || decide (b.length > 2)) = true then 13 else 1 + sumN (tsz n) b := rfl
      have bad : (!nameOk a || decide (b.length > 2)) = true → (13 : Int) = tsz (n + 1) (.mk a b) := fun h => by
        rw [et, if_pos h]; rfl
      have good : nameOk a = true → b.length ≤ 2 → tsz (n + 1) (.mk a b) = 1 + sumN (tsz n) b := fun h h2 => by
        rw [et, if_neg]; simp [h]; omega
      refine ⟨t1, fun h => bad (by rw [h]; rfl), fun h => ⟨fun h2 => bad (by rw [decide_eq_true (by omega)]; simp), fun h2 => ⟨fun h3 => by omega, fun _ => ⟨⟨0, by simp, by omega, by simp [sumN], rfl⟩, fun k hk h2' => ⟨fun hlt => ?_, fun hge => ?_⟩⟩⟩⟩⟩
      · have ht := sumN_take (tsz n) dT hlt
        have hle := sumN_take_le (tsz n) b (k + 1)
        have h4 : sumN (tsz n) b ≤ b.length * 223 := sumN_le fun x _ => by
          have := tsz_le n x
          have : 2 ^ n ≤ 2 ^ 4 := Nat.pow_le_pow_right (by omega) (by omega)
          omega
        exact ⟨hlt, by rw [wrap_small (by omega) (by omega)]; omega, (SmT.kids h1).mem (getD_mem dT hlt), by omega, k + 1, hlt, h2', by omega, by rw [wrap_small (by omega) (by omega), ht]; omega, wrap_small (by omega) (by omega)⟩
      · rw [List.take_of_length_le hge, good h (by omega)]; omega)
theorem k_isTerm : SoundC Tryz.prog K_isTerm.1 K_isTerm.2 := sound_of hm (CtxOK.nil.and (K := K_termSize 4) (k_termSize 4)) (fun _ => []) (by kernel_rfl) fun (a, b) hl => cast (vc_isTerm a b) (by
  replace hl : SmT (.mk a b) := hl
  simp [-List.getD_eq_getElem?_getD, -List.mem_cons, -Bool.forall_bool, -Bool.exists_bool, and_assoc, peta, tl_inj, ex_1, ex_2, ex_3, ex_4, ex_5, ex_6, ex_7, ex_8, ex_9, ey_2, ey_3, ey_4, ey_5, ey_6, ey_7, ey_8, ey_9]
  refine ⟨hl, ?_⟩
  rw [← isTerm_right]
  unfold isTerm
  congr 1; simp only [eq_iff_iff]; omega)
end Cg

/-
  The codes' contracts: models: sizes, copies, equality. No condition.
-/
set_option linter.unusedVariables false
set_option linter.unusedSimpArgs false
set_option maxRecDepth 100000
set_option maxHeartbeats 1000000
namespace Cg
open Go Go.Proofs Pl
theorem SmM.mem {m : Mdl} (h : SmM m) {x : Rw} (hx : x ∈ m) : x.1.size ≤ 1048576 ∧ x.2.1.length ≤ 1048576 := by
  have h1 : m.length + sumN costR m ≤ 1048576 := h
  have h2 := sumN_mem costR hx
  have h3 : costR x = x.1.size + x.2.1.length := rfl
  omega
theorem SmM.len {m : Mdl} (h : SmM m) : m.length ≤ 1048576 := by
  have h1 : m.length + sumN costR m ≤ 1048576 := h
  omega

end Cg

/-
  The codes' contracts: valid models. No condition.
-/
set_option linter.unusedVariables false
set_option linter.unusedSimpArgs false
set_option maxRecDepth 100000
set_option maxHeartbeats 1000000
namespace Pl
open Go Cg
end Pl
namespace Cg
open Go Go.Proofs Pl

end Cg

/-
  The codes' contracts: the values of terms. No condition.
-/
set_option linter.unusedVariables false
set_option linter.unusedSimpArgs false
set_option maxRecDepth 100000
set_option maxHeartbeats 1000000
namespace Pl
open Go Cg
theorem take_getD {α : Type} (d : α) {l : List α} {i : Nat} (h : i < l.length) : l.take (i + 1) = l.take i ++ [l.getD i d] := by
  rw [List.take_succ_eq_append_getElem h]; simp [h]
end Pl
namespace Cg
open Go Go.Proofs Pl

end Cg

/-
  The library functions' contracts at this program, laid by the kit's own programs (lay-shelf, lay-plain). No condition.
-/
namespace Go.Proofs
open Go.Shelf
def Tryz.lays169_ren : Go.Shelf.Ren := ⟨fun | 169 => 116 | n => n, fun | 70 => 131 | 9 => 9 | 0 => 0 | 72 => 133 | 37 => 35 | 127 => 158 | 3 => 3 | 5 => 5 | n => n, fun | n => n⟩
def Tryz.lays156_ren : Go.Shelf.Ren := ⟨fun | 156 => 127 | 165 => 160 | 166 => 114 | 169 => 116 | 240 => 152 | 241 => 179 | 276 => 177 | 277 => 194 | n => n, fun | 31 => 74 | 9 => 9 | 3 => 3 | 4 => 4 | 0 => 0 | 20 => 20 | 72 => 133 | 76 => 114 | 70 => 131 | 37 => 35 | 75 => 113 | 127 => 158 | 164 => 172 | 5 => 5 | 80 => 134 | n => n, fun | n => n⟩
theorem Tryz.lays156 : Go.Proofs.Lays.n156 Tryz.prog Tryz.lays156_ren := {
  mixed := by kernel_rfl
  f156 := Tryz.func127.trans (congrArg some (by kernel_rfl))
  f165 := Tryz.func160.trans (congrArg some (by kernel_rfl))
  f166 := Tryz.func114.trans (congrArg some (by kernel_rfl))
  f169 := Tryz.func116.trans (congrArg some (by kernel_rfl))
  f240 := Tryz.func152.trans (congrArg some (by kernel_rfl))
  f241 := Tryz.func179.trans (congrArg some (by kernel_rfl))
  f276 := Tryz.func177.trans (congrArg some (by kernel_rfl))
  f277 := Tryz.func194.trans (congrArg some (by kernel_rfl))
  t0 := Tryz.underlying0
  a0 := Tryz.isAgg0
  z0 := Tryz.sizeOf0
  v0 := Tryz.zeroValue0
  t3 := Tryz.underlying3
  a3 := Tryz.isAgg3
  z3 := Tryz.sizeOf3
  v3 := Tryz.zeroValue3
  t4 := Tryz.underlying4
  a4 := Tryz.isAgg4
  z4 := Tryz.sizeOf4
  v4 := Tryz.zeroValue4
  t9 := Tryz.underlying9
  a9 := Tryz.isAgg9
  z9 := Tryz.sizeOf9
  v9 := Tryz.zeroValue9
  t20 := Tryz.underlying20
  a20 := Tryz.isAgg20
  z20 := Tryz.sizeOf20
  v20 := Tryz.zeroValue20
  t31 := Tryz.underlying74
  a31 := Tryz.isAgg74
  z31 := Tryz.sizeOf74
  v31 := Tryz.zeroValue74
  t37 := Tryz.underlying35
  a37 := Tryz.isAgg35
  z37 := Tryz.sizeOf35
  v37 := Tryz.zeroValue35
  t70 := Tryz.underlying131
  a70 := Tryz.isAgg131
  z70 := Tryz.sizeOf131
  v70 := Tryz.zeroValue131
  t72 := Tryz.underlying133
  a72 := Tryz.isAgg133
  z72 := Tryz.sizeOf133
  v72 := Tryz.zeroValue133
  t75 := Tryz.underlying113
  a75 := Tryz.isAgg113
  z75 := Tryz.sizeOf113
  v75 := Tryz.zeroValue113
  t76 := Tryz.underlying114
  a76 := Tryz.isAgg114
  z76 := Tryz.sizeOf114
  v76 := Tryz.zeroValue114
  t127 := Tryz.underlying158
  a127 := Tryz.isAgg158
  z127 := Tryz.sizeOf158
  v127 := Tryz.zeroValue158
  t164 := Tryz.underlying172
  a164 := Tryz.isAgg172
  z164 := Tryz.sizeOf172
  v164 := Tryz.zeroValue172 }
theorem Tryz.Builder_Extra_156 : Builder.Extra Tryz.prog Tryz.lays156_ren := {
  sizeBuilder := by kernel_rfl
  liesBuilder := by kernel_rfl
  t5 := Tryz.underlying5
  a5 := Tryz.isAgg5
  z5 := Tryz.sizeOf5
  v5 := Tryz.zeroValue5
  infoByte := by kernel_rfl
  cellsByte := by kernel_rfl
  sizeByte := by kernel_rfl
  neB5 := by decide }
open Go.RowKit in
theorem Tryz.strings_Join_none (a : Option Addr) (c : Nat) (sep : ByteArray) (w : World) :
    Calls Tryz.prog 127 #[.slice a 0 c, .string sep] w fun e w' => e = .returned (.string ⟨#[]⟩) ∧ w' = w := Any.strings_Join_none Tryz.lays156 Tryz.Builder_Extra_156 a c sep w
open Go.RowKit in
theorem Tryz.strings_Join (bk o c : Nat) (xs : List ByteArray) (sep : ByteArray) (w : World) (hcells : ∀ (j : Nat) x, xs[j]? = some x → w.cell? ⟨bk, o + j, none⟩ = some (.string x)) (hbk : bk < w.heap.size) (hN : xs.length ≤ 140737488355328) (hcap : xs.length ≤ c) (hlen : (Lib.join (xs.map (·.data.toList)) sep.data.toList).length ≤ 140737488355328) :
    Calls Tryz.prog 127 #[.slice (some ⟨bk, o, none⟩) xs.length c, .string sep] w fun e w' => e = .returned (.string ⟨(Lib.join (xs.map (·.data.toList)) sep.data.toList).toArray⟩) ∧ Below w.heap.size w w' := Any.strings_Join Tryz.lays156 Tryz.Builder_Extra_156 bk o c xs sep w hcells hbk hN hcap hlen
def Tryz.lays103_ren : Go.Shelf.Ren := ⟨fun | 103 => 38 | 210 => 85 | 206 => 125 | n => n, fun | 9 => 9 | 4 => 4 | 24 => 55 | 3 => 3 | n => n, fun | n => n⟩
theorem Tryz.lays103 : Go.Proofs.Lays.n103 Tryz.prog Tryz.lays103_ren := {
  mixed := by kernel_rfl
  f103 := Tryz.func38.trans (congrArg some (by kernel_rfl))
  f206 := Tryz.func125.trans (congrArg some (by kernel_rfl))
  f210 := Tryz.func85.trans (congrArg some (by kernel_rfl))
  t3 := Tryz.underlying3
  a3 := Tryz.isAgg3
  z3 := Tryz.sizeOf3
  v3 := Tryz.zeroValue3
  t4 := Tryz.underlying4
  a4 := Tryz.isAgg4
  z4 := Tryz.sizeOf4
  v4 := Tryz.zeroValue4
  t9 := Tryz.underlying9
  a9 := Tryz.isAgg9
  z9 := Tryz.sizeOf9
  v9 := Tryz.zeroValue9
  t24 := Tryz.underlying55
  a24 := Tryz.isAgg55
  z24 := Tryz.sizeOf55
  v24 := Tryz.zeroValue55 }
open Go.RowKit in
theorem Tryz.strings_CutPrefix (s p : ByteArray) (w : World) :
    Calls Tryz.prog 38 #[.string s, .string p] w fun e w' => e = .returned (.tuple #[.string ⟨(Lib.trimPrefix s.data.toList p.data.toList).toArray⟩, .bool (Lib.hasPrefix s.data.toList p.data.toList)]) ∧ w' = w := Any.strings_CutPrefix Tryz.lays103 s p w
def Tryz.laysM171_ren : Go.Shelf.Ren := ⟨fun | 171 => 91 | 243 => 128 | 246 => 161 | 283 => 180 | 284 => 181 | 285 => 182 | 286 => 183 | 129 => 196 | 317 => 195 | 318 => 197 | 319 => 198 | 320 => 199 | 337 => 205 | 338 => 206 | n => n, fun | 3 => 3 | 9 => 9 | 2 => 2 | 4 => 4 | 171 => 174 | 0 => 0 | 53 => 175 | 37 => 35 | 5 => 5 | 173 => 178 | 212 => 193 | 51 => 194 | 20 => 20 | 213 => 195 | 46 => 181 | 232 => 208 | 233 => 209 | n => n, fun | 17 => 3 | 18 => 6 | 19 => 7 | n => n⟩
theorem Tryz.laysM171 : Go.Proofs.LaysM.n171 Tryz.prog Tryz.laysM171_ren := {
  mixed := by kernel_rfl
  f129 := Tryz.func196.trans (congrArg some (by kernel_rfl))
  f171 := Tryz.func91.trans (congrArg some (by kernel_rfl))
  f243 := Tryz.func128.trans (congrArg some (by kernel_rfl))
  f246 := Tryz.func161.trans (congrArg some (by kernel_rfl))
  f283 := Tryz.func180.trans (congrArg some (by kernel_rfl))
  f284 := Tryz.func181.trans (congrArg some (by kernel_rfl))
  f285 := Tryz.func182.trans (congrArg some (by kernel_rfl))
  f286 := Tryz.func183.trans (congrArg some (by kernel_rfl))
  f317 := Tryz.func195.trans (congrArg some (by kernel_rfl))
  f318 := Tryz.func197.trans (congrArg some (by kernel_rfl))
  f319 := Tryz.func198.trans (congrArg some (by kernel_rfl))
  f320 := Tryz.func199.trans (congrArg some (by kernel_rfl))
  f337 := Tryz.func205.trans (congrArg some (by kernel_rfl))
  f338 := Tryz.func206.trans (congrArg some (by kernel_rfl))
  t0 := Tryz.underlying0
  a0 := Tryz.isAgg0
  z0 := Tryz.sizeOf0
  v0 := Tryz.zeroValue0
  t2 := Tryz.underlying2
  a2 := Tryz.isAgg2
  z2 := Tryz.sizeOf2
  v2 := Tryz.zeroValue2
  t3 := Tryz.underlying3
  a3 := Tryz.isAgg3
  z3 := Tryz.sizeOf3
  v3 := Tryz.zeroValue3
  t4 := Tryz.underlying4
  a4 := Tryz.isAgg4
  z4 := Tryz.sizeOf4
  v4 := Tryz.zeroValue4
  t5 := Tryz.underlying5
  a5 := Tryz.isAgg5
  z5 := Tryz.sizeOf5
  v5 := Tryz.zeroValue5
  t9 := Tryz.underlying9
  a9 := Tryz.isAgg9
  z9 := Tryz.sizeOf9
  v9 := Tryz.zeroValue9
  t20 := Tryz.underlying20
  a20 := Tryz.isAgg20
  z20 := Tryz.sizeOf20
  v20 := Tryz.zeroValue20
  t37 := Tryz.underlying35
  a37 := Tryz.isAgg35
  z37 := Tryz.sizeOf35
  v37 := Tryz.zeroValue35
  t46 := Tryz.underlying181
  a46 := Tryz.isAgg181
  z46 := Tryz.sizeOf181
  v46 := Tryz.zeroValue181
  t51 := Tryz.underlying194
  a51 := Tryz.isAgg194
  z51 := Tryz.sizeOf194
  v51 := Tryz.zeroValue194
  t53 := Tryz.underlying175
  a53 := Tryz.isAgg175
  z53 := Tryz.sizeOf175
  v53 := Tryz.zeroValue175
  t171 := Tryz.underlying174
  a171 := Tryz.isAgg174
  z171 := Tryz.sizeOf174
  v171 := Tryz.zeroValue174
  t173 := Tryz.underlying178
  a173 := Tryz.isAgg178
  z173 := Tryz.sizeOf178
  v173 := Tryz.zeroValue178
  t212 := Tryz.underlying193
  a212 := Tryz.isAgg193
  z212 := Tryz.sizeOf193
  v212 := Tryz.zeroValue193
  t213 := Tryz.underlying195
  a213 := Tryz.isAgg195
  z213 := Tryz.sizeOf195
  t232 := Tryz.underlying208
  a232 := Tryz.isAgg208
  z232 := Tryz.sizeOf208
  v232 := Tryz.zeroValue208
  t233 := Tryz.underlying209
  a233 := Tryz.isAgg209
  z233 := Tryz.sizeOf209
  v233 := Tryz.zeroValue209
  g17 := by kernel_rfl
  g18 := by kernel_rfl
  g19 := by kernel_rfl
  i0 := by kernel_rfl
  i2 := by kernel_rfl
  i3 := by kernel_rfl
  i4 := by kernel_rfl
  i5 := by kernel_rfl
  i9 := by kernel_rfl
  i20 := by kernel_rfl
  i37 := by kernel_rfl
  i46 := by kernel_rfl
  i51 := by kernel_rfl
  i53 := by kernel_rfl
  i171 := by kernel_rfl
  i173 := by kernel_rfl
  i212 := by kernel_rfl
  i232 := by kernel_rfl
  i233 := by kernel_rfl
  m17 := by kernel_rfl
  m18 := by kernel_rfl
  m19 := by kernel_rfl }
open Go.RowKit Go.Sort Go.Lib in
theorem Tryz.strconv_Itoa (n : Int) (h0 : -9223372036854775808 ≤ n) (h1 : n ≤ 9223372036854775807) (w : World) (htab : Lib.TabIs Tryz.prog w "internal/strconv.uint64pow10" .u64 Lib.pow10Tab) :
    Calls Tryz.prog 91 #[.int .i64 n] w fun e w' => e = .returned (.string ⟨(Lib.itoa n).toArray⟩) ∧ ∃ k os, w' = grow (w.drewN k) os := Any.strconv_Itoa Tryz.laysM171 n h0 h1 w htab
def Tryz.laysC172_ren : Go.Shelf.Ren := ⟨fun | 172 => 96 | 244 => 132 | 245 => 133 | 247 => 167 | 279 => 168 | 280 => 169 | 281 => 170 | 282 => 171 | 287 => 191 | 316 => 192 | 171 => 91 | 205 => 193 | 321 => 203 | 322 => 204 | 243 => 128 | 246 => 161 | 283 => 180 | 284 => 181 | 285 => 182 | 286 => 183 | 129 => 196 | 317 => 195 | 318 => 197 | 319 => 198 | 320 => 199 | 337 => 205 | 338 => 206 | n => n, fun | 9 => 9 | 3 => 3 | 75 => 113 | 76 => 114 | 4 => 4 | 5 => 5 | 167 => 164 | 37 => 35 | 0 => 0 | 85 => 165 | 2 => 2 | 168 => 167 | 53 => 175 | 175 => 185 | 46 => 181 | 210 => 189 | 127 => 158 | 145 => 202 | 143 => 200 | 21 => 21 | 171 => 174 | 173 => 178 | 212 => 193 | 51 => 194 | 20 => 20 | 213 => 195 | 232 => 208 | 233 => 209 | 80 => 134 | n => n, fun | 15 => 1 | 16 => 2 | 17 => 3 | 18 => 6 | 19 => 7 | n => n⟩
theorem Tryz.laysC172 : Go.Proofs.LaysC.n172 Tryz.prog Tryz.laysC172_ren := {
  mixed := by kernel_rfl
  f129 := Tryz.func196.trans (congrArg some (by kernel_rfl))
  f171 := Tryz.func91.trans (congrArg some (by kernel_rfl))
  f172 := Tryz.func96.trans (congrArg some (by kernel_rfl))
  f205 := Tryz.func193.trans (congrArg some (by kernel_rfl))
  f243 := Tryz.func128.trans (congrArg some (by kernel_rfl))
  f244 := Tryz.func132.trans (congrArg some (by kernel_rfl))
  f245 := Tryz.func133.trans (congrArg some (by kernel_rfl))
  f246 := Tryz.func161.trans (congrArg some (by kernel_rfl))
  f247 := Tryz.func167.trans (congrArg some (by kernel_rfl))
  f279 := Tryz.func168.trans (congrArg some (by kernel_rfl))
  f280 := Tryz.func169.trans (congrArg some (by kernel_rfl))
  f281 := Tryz.func170.trans (congrArg some (by kernel_rfl))
  f282 := Tryz.func171.trans (congrArg some (by kernel_rfl))
  f283 := Tryz.func180.trans (congrArg some (by kernel_rfl))
  f284 := Tryz.func181.trans (congrArg some (by kernel_rfl))
  f285 := Tryz.func182.trans (congrArg some (by kernel_rfl))
  f286 := Tryz.func183.trans (congrArg some (by kernel_rfl))
  f287 := Tryz.func191.trans (congrArg some (by kernel_rfl))
  f316 := Tryz.func192.trans (congrArg some (by kernel_rfl))
  f317 := Tryz.func195.trans (congrArg some (by kernel_rfl))
  f318 := Tryz.func197.trans (congrArg some (by kernel_rfl))
  f319 := Tryz.func198.trans (congrArg some (by kernel_rfl))
  f320 := Tryz.func199.trans (congrArg some (by kernel_rfl))
  f321 := Tryz.func203.trans (congrArg some (by kernel_rfl))
  f322 := Tryz.func204.trans (congrArg some (by kernel_rfl))
  f337 := Tryz.func205.trans (congrArg some (by kernel_rfl))
  f338 := Tryz.func206.trans (congrArg some (by kernel_rfl))
  t0 := Tryz.underlying0
  a0 := Tryz.isAgg0
  z0 := Tryz.sizeOf0
  v0 := Tryz.zeroValue0
  t2 := Tryz.underlying2
  a2 := Tryz.isAgg2
  z2 := Tryz.sizeOf2
  v2 := Tryz.zeroValue2
  t3 := Tryz.underlying3
  a3 := Tryz.isAgg3
  z3 := Tryz.sizeOf3
  v3 := Tryz.zeroValue3
  t4 := Tryz.underlying4
  a4 := Tryz.isAgg4
  z4 := Tryz.sizeOf4
  v4 := Tryz.zeroValue4
  t5 := Tryz.underlying5
  a5 := Tryz.isAgg5
  z5 := Tryz.sizeOf5
  v5 := Tryz.zeroValue5
  t9 := Tryz.underlying9
  a9 := Tryz.isAgg9
  z9 := Tryz.sizeOf9
  v9 := Tryz.zeroValue9
  t20 := Tryz.underlying20
  a20 := Tryz.isAgg20
  z20 := Tryz.sizeOf20
  v20 := Tryz.zeroValue20
  t21 := Tryz.underlying21
  a21 := Tryz.isAgg21
  z21 := Tryz.sizeOf21
  v21 := Tryz.zeroValue21
  t37 := Tryz.underlying35
  a37 := Tryz.isAgg35
  z37 := Tryz.sizeOf35
  v37 := Tryz.zeroValue35
  t46 := Tryz.underlying181
  a46 := Tryz.isAgg181
  z46 := Tryz.sizeOf181
  v46 := Tryz.zeroValue181
  t51 := Tryz.underlying194
  a51 := Tryz.isAgg194
  z51 := Tryz.sizeOf194
  v51 := Tryz.zeroValue194
  t53 := Tryz.underlying175
  a53 := Tryz.isAgg175
  z53 := Tryz.sizeOf175
  v53 := Tryz.zeroValue175
  t75 := Tryz.underlying113
  a75 := Tryz.isAgg113
  z75 := Tryz.sizeOf113
  v75 := Tryz.zeroValue113
  t76 := Tryz.underlying114
  a76 := Tryz.isAgg114
  z76 := Tryz.sizeOf114
  v76 := Tryz.zeroValue114
  t85 := Tryz.underlying165
  a85 := Tryz.isAgg165
  z85 := Tryz.sizeOf165
  v85 := Tryz.zeroValue165
  t127 := Tryz.underlying158
  a127 := Tryz.isAgg158
  z127 := Tryz.sizeOf158
  v127 := Tryz.zeroValue158
  t143 := Tryz.underlying200
  a143 := Tryz.isAgg200
  z143 := Tryz.sizeOf200
  v143 := Tryz.zeroValue200
  t145 := Tryz.underlying202
  a145 := Tryz.isAgg202
  z145 := Tryz.sizeOf202
  v145 := Tryz.zeroValue202
  t167 := Tryz.underlying164
  a167 := Tryz.isAgg164
  z167 := Tryz.sizeOf164
  v167 := Tryz.zeroValue164
  t168 := Tryz.underlying167
  a168 := Tryz.isAgg167
  z168 := Tryz.sizeOf167
  v168 := Tryz.zeroValue167
  t171 := Tryz.underlying174
  a171 := Tryz.isAgg174
  z171 := Tryz.sizeOf174
  v171 := Tryz.zeroValue174
  t173 := Tryz.underlying178
  a173 := Tryz.isAgg178
  z173 := Tryz.sizeOf178
  v173 := Tryz.zeroValue178
  t175 := Tryz.underlying185
  a175 := Tryz.isAgg185
  z175 := Tryz.sizeOf185
  v175 := Tryz.zeroValue185
  t210 := Tryz.underlying189
  a210 := Tryz.isAgg189
  z210 := Tryz.sizeOf189
  v210 := Tryz.zeroValue189
  t212 := Tryz.underlying193
  a212 := Tryz.isAgg193
  z212 := Tryz.sizeOf193
  v212 := Tryz.zeroValue193
  t213 := Tryz.underlying195
  a213 := Tryz.isAgg195
  z213 := Tryz.sizeOf195
  t232 := Tryz.underlying208
  a232 := Tryz.isAgg208
  z232 := Tryz.sizeOf208
  v232 := Tryz.zeroValue208
  t233 := Tryz.underlying209
  a233 := Tryz.isAgg209
  z233 := Tryz.sizeOf209
  v233 := Tryz.zeroValue209
  g15 := by kernel_rfl
  g16 := by kernel_rfl
  g17 := by kernel_rfl
  g18 := by kernel_rfl
  g19 := by kernel_rfl
  t80 := Tryz.underlying134
  a80 := Tryz.isAgg134
  z80 := Tryz.sizeOf134
  v80 := Tryz.zeroValue134
  i0 := by kernel_rfl
  i2 := by kernel_rfl
  i3 := by kernel_rfl
  i4 := by kernel_rfl
  i5 := by kernel_rfl
  i9 := by kernel_rfl
  i20 := by kernel_rfl
  i21 := by kernel_rfl
  i37 := by kernel_rfl
  i46 := by kernel_rfl
  i51 := by kernel_rfl
  i53 := by kernel_rfl
  i75 := by kernel_rfl
  i76 := by kernel_rfl
  i80 := by kernel_rfl
  i85 := by kernel_rfl
  i127 := by kernel_rfl
  i143 := by kernel_rfl
  i145 := by kernel_rfl
  i167 := by kernel_rfl
  i168 := by kernel_rfl
  i171 := by kernel_rfl
  i173 := by kernel_rfl
  i175 := by kernel_rfl
  i210 := by kernel_rfl
  i212 := by kernel_rfl
  i232 := by kernel_rfl
  i233 := by kernel_rfl
  m15 := by kernel_rfl
  m16 := by kernel_rfl
  m17 := by kernel_rfl
  m18 := by kernel_rfl
  m19 := by kernel_rfl
  c0 := by kernel_rfl
  c2 := by kernel_rfl
  c3 := by kernel_rfl
  c4 := by kernel_rfl
  c5 := by kernel_rfl
  c9 := by kernel_rfl
  c20 := by kernel_rfl
  c21 := by kernel_rfl
  c37 := by kernel_rfl
  c46 := by kernel_rfl
  c51 := by kernel_rfl
  c53 := by kernel_rfl
  c75 := by kernel_rfl
  c76 := by kernel_rfl
  c80 := by kernel_rfl
  c85 := by kernel_rfl
  c127 := by kernel_rfl
  c143 := by kernel_rfl
  c145 := by kernel_rfl
  c167 := by kernel_rfl
  c168 := by kernel_rfl
  c171 := by kernel_rfl
  c173 := by kernel_rfl
  c175 := by kernel_rfl
  c210 := by kernel_rfl
  c212 := by kernel_rfl
  c213 := by kernel_rfl
  c232 := by kernel_rfl
  c233 := by kernel_rfl }
open Go.RowKit in
theorem Tryz.strconv_Atoi_ok (s : ByteArray) (hmax : s.size ≤ 9223372036854775806) (v : Int) (h : Lib.atoiAll s.data.toList = .ok v) (w : World) :
    Calls Tryz.prog 96 #[.string s] w fun e w' => e = .returned (.tuple #[.int .i64 v, .nilIface]) ∧ (w' = w ∨ ∃ t, w' = Lib.bytesWorld w 5 t) := Any.strconv_Atoi_ok Tryz.laysC172 s hmax v h w
open Go.RowKit in
theorem Tryz.strconv_Atoi_syntax (s : ByteArray) (hlim : s.size ≤ 281474976710656) (h1 : ∀ v, Lib.atoiAll s.data.toList ≠ .ok v) (h2 : Lib.atoiAll s.data.toList ≠ .range) (ev : Value) (w : World) (hv : w.cell? ⟨1, 0, none⟩ = some ev) (hev : ev = .nilIface ∨ ∃ te pe, ev = .iface te pe) :
    Calls Tryz.prog 96 #[.string s] w fun e w' => ∃ N, e = .returned (.tuple #[.int .i64 (0), .iface 167 (.pointer (some ⟨N, 0, none⟩))]) ∧ w.heap.size ≤ N ∧ w'.heap[N]? = some (.cells #[.string ⟨#[65, 116, 111, 105]⟩, .string s, ev] 189 (0, 0)) ∧ Below w.heap.size w w' := by
  cases q : Lib.atoiAll s.data.toList with
  | ok v => exact absurd q (h1 v)
  | range => exact absurd q h2
  | _ => exact Any.strconv_Atoi_syntax Tryz.laysC172 s hlim q ev w hv hev
open Go.RowKit in
theorem Tryz.strconv_Atoi_range (s : ByteArray) (hlim : s.size ≤ 281474976710656) (h : Lib.atoiAll s.data.toList = .range) (ev : Value) (w : World) (hv : w.cell? ⟨2, 0, none⟩ = some ev) (hev : ev = .nilIface ∨ ∃ te pe, ev = .iface te pe) :
    Calls Tryz.prog 96 #[.string s] w fun e w' => ∃ N, e = .returned (.tuple #[.int .i64 (Lib.atoiSat s.data.toList), .iface 167 (.pointer (some ⟨N, 0, none⟩))]) ∧ w.heap.size ≤ N ∧ w'.heap[N]? = some (.cells #[.string ⟨#[65, 116, 111, 105]⟩, .string s, ev] 189 (0, 0)) ∧ Below w.heap.size w w' := Any.strconv_Atoi_range Tryz.laysC172 s hlim h ev w hv hev
def Tryz.lays145_ren : Go.Shelf.Ren := ⟨fun | 145 => 93 | 220 => 129 | 219 => 162 | 217 => 184 | 225 => 185 | 224 => 186 | 267 => 187 | 266 => 200 | 314 => 201 | n => n, fun | 9 => 9 | 4 => 4 | 59 => 109 | 3 => 3 | 5 => 5 | 46 => 181 | 146 => 197 | 51 => 194 | n => n, fun | 1 => 0 | n => n⟩
theorem Tryz.lays145 : Go.Proofs.Lays.n145 Tryz.prog Tryz.lays145_ren := {
  mixed := by kernel_rfl
  f145 := Tryz.func93.trans (congrArg some (by kernel_rfl))
  f217 := Tryz.func184.trans (congrArg some (by kernel_rfl))
  f219 := Tryz.func162.trans (congrArg some (by kernel_rfl))
  f220 := Tryz.func129.trans (congrArg some (by kernel_rfl))
  f224 := Tryz.func186.trans (congrArg some (by kernel_rfl))
  f225 := Tryz.func185.trans (congrArg some (by kernel_rfl))
  f266 := Tryz.func200.trans (congrArg some (by kernel_rfl))
  f267 := Tryz.func187.trans (congrArg some (by kernel_rfl))
  f314 := Tryz.func201.trans (congrArg some (by kernel_rfl))
  t3 := Tryz.underlying3
  a3 := Tryz.isAgg3
  z3 := Tryz.sizeOf3
  v3 := Tryz.zeroValue3
  t4 := Tryz.underlying4
  a4 := Tryz.isAgg4
  z4 := Tryz.sizeOf4
  v4 := Tryz.zeroValue4
  t5 := Tryz.underlying5
  a5 := Tryz.isAgg5
  z5 := Tryz.sizeOf5
  v5 := Tryz.zeroValue5
  t9 := Tryz.underlying9
  a9 := Tryz.isAgg9
  z9 := Tryz.sizeOf9
  v9 := Tryz.zeroValue9
  t46 := Tryz.underlying181
  a46 := Tryz.isAgg181
  z46 := Tryz.sizeOf181
  v46 := Tryz.zeroValue181
  t51 := Tryz.underlying194
  a51 := Tryz.isAgg194
  z51 := Tryz.sizeOf194
  v51 := Tryz.zeroValue194
  t59 := Tryz.underlying109
  a59 := Tryz.isAgg109
  z59 := Tryz.sizeOf109
  v59 := Tryz.zeroValue109
  t146 := Tryz.underlying197
  a146 := Tryz.isAgg197
  z146 := Tryz.sizeOf197
  v146 := Tryz.zeroValue197
  g1 := by kernel_rfl }
open Go.RowKit Go.Lib in
theorem Tryz.strings_Cut (s sep : ByteArray) (m : Int) (w : World) (hs : s.size < 4294967281) (hm : w.cell? ⟨0, 0, none⟩ = some (.int .i64 m)) :
    Calls Tryz.prog 93 #[.string s, .string sep] w fun e w' => e = .returned (.tuple #[.string ⟨(Lib.cut s.data.toList sep.data.toList).1.toArray⟩, .string ⟨(Lib.cut s.data.toList sep.data.toList).2.1.toArray⟩, .bool (Lib.cut s.data.toList sep.data.toList).2.2]) ∧ ∃ n, w' = w.drewN n := Any.strings_Cut Tryz.lays145 s sep m w hs hm
def Tryz.lays99_ren : Go.Shelf.Ren := ⟨fun | 99 => 163 | 206 => 125 | n => n, fun | 9 => 9 | 4 => 4 | 3 => 3 | n => n, fun | n => n⟩
theorem Tryz.lays99 : Go.Proofs.Lays.n99 Tryz.prog Tryz.lays99_ren := {
  mixed := by kernel_rfl
  f99 := Tryz.func163.trans (congrArg some (by kernel_rfl))
  f206 := Tryz.func125.trans (congrArg some (by kernel_rfl))
  t3 := Tryz.underlying3
  a3 := Tryz.isAgg3
  z3 := Tryz.sizeOf3
  v3 := Tryz.zeroValue3
  t4 := Tryz.underlying4
  a4 := Tryz.isAgg4
  z4 := Tryz.sizeOf4
  v4 := Tryz.zeroValue4
  t9 := Tryz.underlying9
  a9 := Tryz.isAgg9
  z9 := Tryz.sizeOf9
  v9 := Tryz.zeroValue9 }
open Go.RowKit Go.Lib in
theorem Tryz.strings_HasPrefix (s p : ByteArray) (w : World) :
    Calls Tryz.prog 163 #[.string s, .string p] w fun e w' => e = .returned (.bool (Lib.hasPrefix s.data.toList p.data.toList)) ∧ w' = w := Any.strings_HasPrefix Tryz.lays99 s p w
def Tryz.lays146_ren : Go.Shelf.Ren := ⟨fun | 146 => 95 | 221 => 131 | 268 => 164 | 138 => 165 | 143 => 166 | 195 => 188 | 197 => 189 | 218 => 190 | 219 => 162 | 260 => 202 | 217 => 184 | 225 => 185 | 224 => 186 | 267 => 187 | 266 => 200 | 314 => 201 | n => n, fun | 9 => 9 | 31 => 74 | 3 => 3 | 4 => 4 | 0 => 0 | 105 => 183 | 21 => 21 | 5 => 5 | 46 => 181 | 119 => 204 | 139 => 207 | 138 => 206 | 146 => 197 | 51 => 194 | n => n, fun | 1 => 0 | 3 => 4 | 4 => 5 | n => n⟩
theorem Tryz.lays146 : Go.Proofs.Lays.n146 Tryz.prog Tryz.lays146_ren := {
  mixed := by kernel_rfl
  f138 := Tryz.func165.trans (congrArg some (by kernel_rfl))
  f143 := Tryz.func166.trans (congrArg some (by kernel_rfl))
  f146 := Tryz.func95.trans (congrArg some (by kernel_rfl))
  f195 := Tryz.func188.trans (congrArg some (by kernel_rfl))
  f197 := Tryz.func189.trans (congrArg some (by kernel_rfl))
  f217 := Tryz.func184.trans (congrArg some (by kernel_rfl))
  f218 := Tryz.func190.trans (congrArg some (by kernel_rfl))
  f219 := Tryz.func162.trans (congrArg some (by kernel_rfl))
  f221 := Tryz.func131.trans (congrArg some (by kernel_rfl))
  f224 := Tryz.func186.trans (congrArg some (by kernel_rfl))
  f225 := Tryz.func185.trans (congrArg some (by kernel_rfl))
  f260 := Tryz.func202.trans (congrArg some (by kernel_rfl))
  f266 := Tryz.func200.trans (congrArg some (by kernel_rfl))
  f267 := Tryz.func187.trans (congrArg some (by kernel_rfl))
  f268 := Tryz.func164.trans (congrArg some (by kernel_rfl))
  f314 := Tryz.func201.trans (congrArg some (by kernel_rfl))
  t0 := Tryz.underlying0
  a0 := Tryz.isAgg0
  z0 := Tryz.sizeOf0
  v0 := Tryz.zeroValue0
  t3 := Tryz.underlying3
  a3 := Tryz.isAgg3
  z3 := Tryz.sizeOf3
  v3 := Tryz.zeroValue3
  t4 := Tryz.underlying4
  a4 := Tryz.isAgg4
  z4 := Tryz.sizeOf4
  v4 := Tryz.zeroValue4
  t5 := Tryz.underlying5
  a5 := Tryz.isAgg5
  z5 := Tryz.sizeOf5
  v5 := Tryz.zeroValue5
  t9 := Tryz.underlying9
  a9 := Tryz.isAgg9
  z9 := Tryz.sizeOf9
  v9 := Tryz.zeroValue9
  t21 := Tryz.underlying21
  a21 := Tryz.isAgg21
  z21 := Tryz.sizeOf21
  v21 := Tryz.zeroValue21
  t31 := Tryz.underlying74
  a31 := Tryz.isAgg74
  z31 := Tryz.sizeOf74
  v31 := Tryz.zeroValue74
  t46 := Tryz.underlying181
  a46 := Tryz.isAgg181
  z46 := Tryz.sizeOf181
  v46 := Tryz.zeroValue181
  t51 := Tryz.underlying194
  a51 := Tryz.isAgg194
  z51 := Tryz.sizeOf194
  v51 := Tryz.zeroValue194
  t105 := Tryz.underlying183
  a105 := Tryz.isAgg183
  z105 := Tryz.sizeOf183
  v105 := Tryz.zeroValue183
  t119 := Tryz.underlying204
  a119 := Tryz.isAgg204
  z119 := Tryz.sizeOf204
  t138 := Tryz.underlying206
  a138 := Tryz.isAgg206
  z138 := Tryz.sizeOf206
  v138 := Tryz.zeroValue206
  t139 := Tryz.underlying207
  a139 := Tryz.isAgg207
  z139 := Tryz.sizeOf207
  v139 := Tryz.zeroValue207
  t146 := Tryz.underlying197
  a146 := Tryz.isAgg197
  z146 := Tryz.sizeOf197
  v146 := Tryz.zeroValue197
  g1 := by kernel_rfl
  g3 := by kernel_rfl
  g4 := by kernel_rfl }
open Go.RowKit Go.Lib in
theorem Tryz.strings_Split (s sep : ByteArray) (m : Int) (w : World) (hs : s.size < 4294967281) (hm : w.cell? ⟨0, 0, none⟩ = some (.int .i64 m)) (h1 : 1 ≤ sep.size) :
    Calls Tryz.prog 95 #[.string s, .string sep] w fun e w' =>
      e = .returned (.slice (some ⟨w.heap.size, 0, none⟩) (Lib.countB s sep + 1) (Lib.countB s sep + 1)) ∧ w' = w.alloc (.cells ((Lib.splitB sep 0 (Lib.countB s sep) s).map Value.string).toArray 9) := Any.strings_Split Tryz.lays146 (by kernel_rfl) s sep m w hs hm h1
def Tryz.lays166_ren : Go.Shelf.Ren := ⟨fun | 166 => 114 | 240 => 152 | 276 => 177 | n => n, fun | 0 => 0 | 3 => 3 | 4 => 4 | 5 => 5 | 9 => 9 | 20 => 20 | 37 => 35 | 70 => 131 | 72 => 133 | 75 => 113 | 80 => 134 | 164 => 172 | n => n, fun | n => n⟩
end Go.Proofs

/-
  The library's contracts: joined texts. No condition.
-/
set_option linter.unusedVariables false
set_option linter.unusedSimpArgs false
namespace Pl
open Go
theorem interL_eq (sep : List UInt8) : ∀ xs : List (List UInt8), Go.Lib.join xs sep = interL sep xs
  | [] => rfl
  | [x] => by simp [Go.Lib.join, List.intercalate, interL]
  | x :: y :: r => by
    have := interL_eq sep (y :: r)
    simp only [Go.Lib.join, List.intercalate, List.intersperse_cons_cons, List.flatten_cons] at this ⊢
    rw [interL, ← this]; simp
end Pl
namespace Cg
open Go Go.Proofs Pl
theorem Ext.ofBelow {w w' : World} (h : Go.RowKit.Below w.heap.size w w') : Ext w w' := ⟨h.os, h.tape, h.output, h.size, h.block⟩
theorem k_Join : SoundC Tryz.prog K_Join.1 K_Join.2 := ⟨callable_of (by kernel_rfl), fun x hx S w vals hin hgl hrel => by
  obtain ⟨xs, sep⟩ := x
  obtain ⟨h1, h2⟩ : xs.length ≤ 140737488355328 ∧ (joinS xs sep).size ≤ 140737488355328 := hx
  obtain ⟨y0, r0, rfl, ha, y1, r1, rfl, hb, hc⟩ := hrel
  cases hc
  obtain ⟨a, cap, rfl, hcap, ha⟩ := ha
  have hb : y1 = .string sep := hb
  subst hb
  have hj : (⟨(Go.Lib.join (xs.map (·.data.toList)) sep.data.toList).toArray⟩ : ByteArray) = joinS xs sep := by
    rw [interL_eq]; rfl
  rcases ha with h0 | ⟨b, off, rfl, hS, c, T, fr, hheap, hcells⟩
  · have e : xs = [] := List.length_eq_zero_iff.1 h0
    subst e
    exact (Tryz.strings_Join_none a cap sep w).mono fun e w' ⟨he, hw⟩ => by
      subst hw
      exact ⟨_, S, he, Ext.refl _, fun _ h => h, fun _ h => .inl h, hin, rfl⟩
  · refine (Tryz.strings_Join b off cap xs sep w (fun j x hj => ?_) (hin b hS) h1 hcap (by
      have : (joinS xs sep).size = (Go.Lib.join (xs.map (·.data.toList)) sep.data.toList).length := by rw [← hj]; simp [ByteArray.size]
      omega)).mono fun e w' ⟨he, hw⟩ => ?_
    · obtain ⟨hlt, e⟩ := List.getElem?_eq_some_iff.1 hj
      obtain ⟨y, h3, h4⟩ := hcells j hlt 0 (by decide)
      have h4' : RelI S w (.v (.string (xs.getD j ByteArray.empty))) y := h4
      rw [RelI] at h4'
      have h5 : y = .string (xs.getD j ByteArray.empty) := h4'.1
      rw [h5] at h3
      simp only [Nat.mul_one, Nat.add_zero] at h3
      simp only [World.cell?, hheap, h3]
      simp [← e, hlt]
    · rw [hj] at he
      exact ⟨_, S, he, Ext.ofBelow hw, fun _ h => h, fun _ h => .inl h, fun b hb => Nat.lt_of_lt_of_le (hin b hb) hw.size, rfl⟩⟩
end Cg

/-
  What is left to show of each function's code, printed by a program: Same. No condition.
-/
set_option maxRecDepth 100000
set_option linter.unusedVariables false
namespace Cg
open Go Go.Proofs
theorem vc_EqualT (n : Nat) (x : List Pl.Tm × List Pl.Tm) : (condP ((↑x.1.length : Int) != (↑x.2.length : Int)) (false = decide (x.1 = x.2))
 ((∃ x_1 : Nat,
 (x_1 ≤ x.1.length ∧ x.1.length = x.2.length ∧ (x.1 = x.2 ↔ List.drop x_1 x.1 = List.drop x_1 x.2)) ∧ (Is (terms x.1) (terms x.1) ∧ Is (terms x.2) (terms x.2) ∧ True ∧ Is (terms x.1) (terms x.1) ∧ (↑x.1.length : Int) = (↑x.1.length : Int) ∧ (0 : Int) = (↑x_1 : Int) ∧ True) ∧ True) ∧ ∀ (x_1 : Nat),
 x_1 ≤ x.1.length ∧ x.1.length = x.2.length ∧ (x.1 = x.2 ↔ List.drop x_1 x.1 = List.drop x_1 x.2) →
 condP (decide ((↑x_1 : Int) < (↑x.1.length : Int)))
 (((0 : Int) ≤ (↑x_1 : Int) ∧ (↑x_1 : Int) < (↑x.1.length : Int)) ∧ x_1 < x.1.length ∧ ((0 : Int) ≤ (↑x_1 : Int) ∧ (↑x_1 : Int) < (↑x.2.length : Int)) ∧ x_1 < x.2.length ∧ ∃ x_2 : Pl.TP × Pl.TP,
 ((Pl.Tree.val (x.1.getD x_1 Pl.dT) = x_2.1.1 ∧ Is (kidsT (x.1.getD x_1 Pl.dT)) (terms x_2.1.2) ∧ True) ∧ (Pl.Tree.val (x.2.getD x_1 Pl.dT) = x_2.2.1 ∧ Is (kidsT (x.2.getD x_1 Pl.dT)) (terms x_2.2.2) ∧ True) ∧ True) ∧ (SmT (Pl.Tree.mk x_2.1.1 x_2.1.2) ∧ Pl.manyL x_2.1.2 < n) ∧ condP (!decide (x_2.1 = x_2.2)) (false = decide (x.1 = x.2))
 (Exists fun (x' : Nat) =>
 (x' ≤ x.1.length ∧ x.1.length = x.2.length ∧ (x.1 = x.2 ↔ List.drop x' x.1 = List.drop x' x.2)) ∧ x.1.length - x' < x.1.length - x_1 ∧ (Is (terms x.1) (terms x.1) ∧ Is (terms x.2) (terms x.2) ∧ True ∧ Is (terms x.1) (terms x.1) ∧ (↑x.1.length : Int) = (↑x.1.length : Int) ∧ IntKind.i64.wrap ((↑x_1 : Int) + (1 : Int)) = (↑x' : Int) ∧ True) ∧ True))
 (true = decide (x.1 = x.2)))) = Goal Tryz.prog [(K_iTSame n)] (A_EqualT x.1 x.2) (K_EqualT (n + 1)).1 (K_EqualT (n + 1)).2 (x) := by kernel_rfl

theorem vc_iTSame (n : Nat) (x : Pl.TP × Pl.TP) : (condP (x.1.1.toList == x.2.1.toList)
 (∃ x_1 : List Pl.Tm × List Pl.Tm,
 (Is (terms x.1.2) (terms x_1.1) ∧ Is (terms x.2.2) (terms x_1.2) ∧ True ∧ True) ∧ (SmTs x_1.1 ∧ Pl.manyL x_1.1 < n) ∧ decide (x_1.1 = x_1.2) = decide (x.1 = x.2))
 (false = decide (x.1 = x.2))) = Goal Tryz.prog [(K_EqualT n)] ([]) (K_iTSame n).1 (K_iTSame n).2 (x) := by kernel_rfl

theorem vc_iAtomSame (x : Pl.Atm × Pl.Atm) : (condP (x.1.1 == x.2.1)
 (∃ x_1 : Pl.TP × Pl.TP,
 ((x.1.2.1.1 = x_1.1.1 ∧ Is (terms x.1.2.1.2) (terms x_1.1.2) ∧ True) ∧ (x.2.2.1.1 = x_1.2.1 ∧ Is (terms x.2.2.1.2) (terms x_1.2.2) ∧ True) ∧ True) ∧ SmT (Pl.Tree.mk x_1.1.1 x_1.1.2) ∧ condP (decide (x_1.1 = x_1.2))
 (∃ x_2 : Pl.TP × Pl.TP,
 ((x.1.2.2.1.1 = x_2.1.1 ∧ Is (terms x.1.2.2.1.2) (terms x_2.1.2) ∧ True) ∧ (x.2.2.2.1.1 = x_2.2.1 ∧ Is (terms x.2.2.2.1.2) (terms x_2.2.2) ∧ True) ∧ True) ∧ SmT (Pl.Tree.mk x_2.1.1 x_2.1.2) ∧ condP (decide (x_2.1 = x_2.2))
 (∃ x_3 : List Pl.Tm × List Pl.Tm,
 (Is (terms x.1.2.2.2.1) (terms x_3.1) ∧ Is (terms x.2.2.2.2.1) (terms x_3.2) ∧ True ∧ True) ∧ SmTs x_3.1 ∧ condP (decide (x_3.1 = x_3.2))
 (∃ x_4 : List Int × List Int,
 (Is (ints x.1.2.2.2.2.1) (ints x_4.1) ∧ Is (ints x.2.2.2.2.2.1) (ints x_4.2) ∧ True) ∧ Sz x_4.1 ∧ condP (decide (x_4.1 = x_4.2))
 (condP (x.1.2.2.2.2.2.1 == x.2.2.2.2.2.2.1)
 ((x.1.2.2.2.2.2.2 == x.2.2.2.2.2.2.2) = decide (x.1 = x.2)) (false = decide (x.1 = x.2)))
 (false = decide (x.1 = x.2)))
 (false = decide (x.1 = x.2)))
 (false = decide (x.1 = x.2)))
 (false = decide (x.1 = x.2)))
 (false = decide (x.1 = x.2))) = Goal Tryz.prog [K_iTermSame, K_EqualTerms, K_slEqual] ([]) K_iAtomSame.1 K_iAtomSame.2 (x) := by kernel_rfl

end Cg

/-
  What is left to show of each function's code, printed by a program: Cnf. No condition.
-/
set_option maxRecDepth 100000
set_option linter.unusedVariables false
namespace Cg
open Go Go.Proofs
theorem vc_slEqual (l m : List Int) : (condP ((↑l.length : Int) != (↑m.length : Int)) (false = decide (l = m))
 ((∃ x : Nat,
 (x ≤ l.length ∧ l.length = m.length ∧ (l = m ↔ List.drop x l = List.drop x m)) ∧ (Is (ints l) (ints l) ∧ Is (ints m) (ints m) ∧ (↑l.length : Int) = (↑l.length : Int) ∧ (0 : Int) = (↑x : Int) ∧ True) ∧ True) ∧ ∀ (x : Nat),
 x ≤ l.length ∧ l.length = m.length ∧ (l = m ↔ List.drop x l = List.drop x m) →
 condP (decide ((↑x : Int) < (↑l.length : Int)))
 (((0 : Int) ≤ (↑x : Int) ∧ (↑x : Int) < (↑l.length : Int)) ∧ x < l.length ∧ ((0 : Int) ≤ (↑x : Int) ∧ (↑x : Int) < (↑m.length : Int)) ∧ x < m.length ∧ condP (l.getD x (0 : Int) != m.getD x (0 : Int)) (false = decide (l = m))
 (Exists fun (x' : Nat) =>
 (x' ≤ l.length ∧ l.length = m.length ∧ (l = m ↔ List.drop x' l = List.drop x' m)) ∧ l.length - x' < l.length - x ∧ (Is (ints l) (ints l) ∧ Is (ints m) (ints m) ∧ (↑l.length : Int) = (↑l.length : Int) ∧ IntKind.i64.wrap ((↑x : Int) + (1 : Int)) = (↑x' : Int) ∧ True) ∧ True))
 (true = decide (l = m)))) = Goal Tryz.prog [] (A_slEqual l m) K_slEqual.1 K_slEqual.2 ((l, m)) := by kernel_rfl

end Cg

/-
  The codes' contracts: clause sets. No condition.
-/
set_option linter.unusedVariables false
set_option linter.unusedSimpArgs false
set_option maxRecDepth 100000
namespace Cg
open Go Go.Proofs

theorem k_slEqual : SoundC Tryz.prog K_slEqual.1 K_slEqual.2 := sound_of hm CtxOK.nil (fun (l, m) => A_slEqual l m) (by kernel_rfl) fun (l, m) hl => cast (vc_slEqual l m) (by
  replace hl : Sz l := hl
  simp [-List.getD_eq_getElem?_getD, and_assoc]
  refine ⟨fun h e => h (by rw [e]), fun h => ⟨⟨0, by simp; omega⟩, fun k hk hlm he => ⟨fun hlt => ⟨hlt, by omega, (eq_step 0 hlt hlm he).1, fun h => ⟨k + 1, hlt, hlm, (eq_step 0 hlt hlm he).2 h, by omega, wrap_succ hlt hl⟩⟩, fun hge => ?_⟩⟩⟩
  rw [drop_end (by omega), drop_end (l := m) (by omega)] at he
  exact he.2 rfl)
end Cg

/-
  The codes' contracts: atoms, formulas, explanations, cases: sizes, copies, equality. No condition.
-/
set_option linter.unusedVariables false
set_option linter.unusedSimpArgs false
set_option maxRecDepth 100000
set_option maxHeartbeats 1000000
namespace Cg
open Go Go.Proofs Pl
section
variable {α : Type} {f : α → Nat}
theorem SmTrs.mem {l : List (Tree α)} (h : SmTrs f l) {t : Tree α} (ht : t ∈ l) : SmTr f t := by
  have := costTr_mem (f := f) ht
  have h1 : l.length + costTrs f l ≤ 1048576 := h
  show costTr f t ≤ 1048576
  omega
theorem SmTrs.len {l : List (Tree α)} (h : SmTrs f l) : l.length ≤ 1048576 := by
  have h1 : l.length + costTrs f l ≤ 1048576 := h
  omega
theorem SmTr.kids {v : α} {ks : List (Tree α)} (h : SmTr f (.mk v ks)) : SmTrs f ks := by
  have h1 : costTr f (.mk v ks) ≤ 1048576 := h
  rw [costTr_eq] at h1
  simp only [Tree.val, Tree.kids] at h1
  show ks.length + costTrs f ks ≤ 1048576
  omega
theorem SmTr.here {v : α} {ks : List (Tree α)} (h : SmTr f (.mk v ks)) : f v ≤ 1048576 := by
  have h1 : costTr f (.mk v ks) ≤ 1048576 := h
  rw [costTr_eq] at h1
  simp only [Tree.val, Tree.kids] at h1
  omega
end
theorem SmA.parts {x : Atm} (h : SmA x) : SmT (.mk x.2.1.1 x.2.1.2) ∧ SmT (.mk x.2.2.1.1 x.2.2.1.2) ∧ SmTs x.2.2.2.1 ∧ x.2.2.2.2.1.length ≤ 1048576 := by
  have h1 : costA x ≤ 1048576 := h
  unfold costA at h1
  refine ⟨?_, ?_, ?_, by omega⟩
  · show costT _ ≤ _; omega
  · show costT _ ≤ _; omega
  · show _ + _ ≤ _; omega

theorem k_iTSames (n : Nat) : SoundC Tryz.prog (K_EqualT n).1 (K_EqualT n).2 ∧ SoundC Tryz.prog (K_iTSame n).1 (K_iTSame n).2 := by
  induction n with
  | zero => exact ⟨sound_of hm CtxOK.nil (fun _ => []) (by kernel_rfl) fun x h => absurd h.2 (Nat.not_lt_zero _), sound_of hm CtxOK.nil (fun _ => []) (by kernel_rfl) fun x h => absurd h.2 (Nat.not_lt_zero _)⟩
  | succ n ih =>
    have h1 : SoundC Tryz.prog (K_EqualT (n + 1)).1 (K_EqualT (n + 1)).2 := sound_of hm (CtxOK.nil.and (K := K_iTSame n) ih.2) (fun x => A_EqualT x.1 x.2) (by kernel_rfl) fun (x : _) hl => (by
      have hn : manyL x.1 < n + 1 := hl.2
      replace hl := hl.1
      rw [← vc_EqualT n x]
      have hl : SmTs x.1 := hl
      obtain ⟨l, m⟩ := x
      dsimp only at *
      simp [-List.getD_eq_getElem?_getD, -List.mem_cons, -Bool.forall_bool, -Bool.exists_bool, and_assoc, peta, tl_inj, ex_1, ex_2, ex_3, ex_4, ex_5, ex_6, ex_7, ex_8, ex_9, ey_2, ey_3, ey_4, ey_5, ey_6, ey_7, ey_8, ey_9]
      have hlen := hl.len
      simp only [tparts']
      refine ⟨fun h e => h (by rw [e]), fun h => ⟨⟨0, by simp; omega⟩, fun k hk hlm he => ⟨fun hlt => ⟨hlt, by omega, hl.mem (getD_mem dT hlt), by have := manyL_kids (getD_mem dT hlt); omega, (eq_step dT hlt hlm he).1, fun h => ⟨k + 1, hlt, hlm, (eq_step dT hlt hlm he).2 h, by omega, wrap_small (by omega) (by omega)⟩⟩, fun hge => ?_⟩⟩⟩
      rw [drop_end (by omega), drop_end (l := m) (by omega)] at he
      exact he.2 rfl)
    have h2 : SoundC Tryz.prog (K_iTSame (n + 1)).1 (K_iTSame (n + 1)).2 := sound_of hm (CtxOK.nil.and (K := K_EqualT (n + 1)) h1) (fun _ => []) (by kernel_rfl) fun (x : _) hl => (by
      have hn : manyL x.1.2 < n + 1 := hl.2
      replace hl := hl.1
      rw [← vc_iTSame (n + 1) x]
      have hl : SmT (.mk x.1.1 x.1.2) := hl
      obtain ⟨⟨a, b⟩, c, d⟩ := x
      dsimp only at *
      simp [-List.getD_eq_getElem?_getD, -List.mem_cons, -Bool.forall_bool, -Bool.exists_bool, and_assoc, peta, tl_inj, ex_1, ex_2, ex_3, ex_4, ex_5, ex_6, ex_7, ex_8, ex_9, ey_2, ey_3, ey_4, ey_5, ey_6, ey_7, ey_8, ey_9]
      exact ⟨fun e => ⟨hl.kids, hn, fun _ => e⟩, fun h e => absurd e h⟩)
    exact ⟨h1, h2⟩

theorem k_iTermSame : SoundC Tryz.prog K_iTermSame.1 K_iTermSame.2 := SoundC.fam (fun x => manyL x.1.2) fun n => (k_iTSames n).2
theorem k_EqualTerms : SoundC Tryz.prog K_EqualTerms.1 K_EqualTerms.2 := SoundC.fam (fun x => manyL x.1) fun n => (k_iTSames n).1

theorem k_iAtomSame : SoundC Tryz.prog K_iAtomSame.1 K_iAtomSame.2 := sound_of hm (((CtxOK.nil.and k_slEqual).and k_EqualTerms).and k_iTermSame) (fun _ => []) (by kernel_rfl) fun x hl => (by
  rw [← vc_iAtomSame x]
  obtain ⟨s1, s2, s3, s4⟩ := SmA.parts (x := x.1) hl
  obtain ⟨⟨kind, A, B, nums, times, bound, strict⟩, kind', A', B', nums', times', bound', strict'⟩ := x
  dsimp only at *
  simp [-List.getD_eq_getElem?_getD, -List.mem_cons, -Bool.forall_bool, -Bool.exists_bool, and_assoc, peta, tl_inj, ex_1, ex_2, ex_3, ex_4, ex_5, ex_6, ex_7, ex_8, ex_9, ey_2, ey_3, ey_4, ey_5, ey_6, ey_7, ey_8, ey_9]
  repeat' (first | apply And.intro | intro _)
  all_goals first | contradiction | assumption | omega | (simp_all; done) | (cases strict <;> cases strict' <;> simp_all))

end Cg

/-
  The codes' contracts: valid atoms. No condition.
-/
set_option linter.unusedVariables false
set_option linter.unusedSimpArgs false
set_option maxRecDepth 100000
set_option maxHeartbeats 1000000
namespace Pl
open Go Cg
theorem textBs_map : ∀ l : List Tm, textBs l = l.map textB
  | [] => rfl
  | t :: ts => by simp only [textBs, List.map_cons, textBs_map ts]
theorem interL_snoc {sep t : List UInt8} : ∀ {ts : List (List UInt8)}, ts ≠ [] → interL sep (ts ++ [t]) = interL sep ts ++ sep ++ t
  | [], h => absurd rfl h
  | [x], _ => by simp [interL]
  | x :: y :: r, _ => by
    have := interL_snoc (sep := sep) (t := t) (ts := y :: r) (by simp)
    simp only [List.cons_append] at this ⊢
    simp only [interL, this, List.append_assoc]
theorem interL_len (sep : List UInt8) (h1 : sep.length = 1) : ∀ ts : List (List UInt8), (interL sep ts).length ≤ sumN List.length ts + ts.length - 1
  | [] => by simp [interL]
  | [x] => by simp [interL, sumN]
  | x :: y :: r => by
    have := interL_len sep h1 (y :: r)
    simp only [interL, List.length_append, sumN, List.length_cons] at this ⊢
    omega
theorem textB_mk (v : ByteArray) (ks : List Tm) : textB (.mk v ks) = if ks = [] then bl' v else spellB (bl' v) (textBs ks) ++ [41] := by
  rw [textB]
  cases ks with
  | nil => rfl
  | cons k r => simp [spellB, textBs]
theorem spellB_step {v : List UInt8} {l : List Tm} {k : Nat} (h : k < l.length) : spellB v (textBs (l.take (k + 1))) = (spellB v (textBs (l.take k)) ++ [if k = 0 then 40 else 44]) ++ textB (l.getD k dT) := by
  rw [take_getD dT h, textBs_map, textBs_map, List.map_append]
  unfold spellB
  by_cases h0 : k = 0
  · subst h0; simp [interL]
  · have hne : (l.take k).map textB ≠ [] := by
      intro e
      have := congrArg List.length e
      rw [List.length_map, List.length_take, List.length_nil] at this
      omega
    have h2 : ((l.take k).map textB).isEmpty = false := by cases hh : (l.take k).map textB with
      | nil => exact absurd hh hne
      | cons _ _ => rfl
    have h3 : ((l.take k).map textB ++ [l.getD k dT].map textB).isEmpty = false := by cases hh : (l.take k).map textB with
      | nil => exact absurd hh hne
      | cons _ _ => rfl
    rw [h2, h3, if_neg h0]
    simp only [List.map_cons, List.map_nil, Bool.false_eq_true, if_false]
    rw [interL_snoc hne]; simp only [List.append_assoc]
mutual
theorem textB_len : ∀ t : Tm, (textB t).length ≤ 2 * costT t
  | .mk v ks => by
    have h := textBs_len ks
    have hl := interL_len [44] rfl (textBs ks)
    have hm : (textBs ks).length = ks.length := by rw [textBs_map]; simp
    rw [textB_mk]
    rw [costT]
    have e : (bl' v).length = v.size := rfl
    by_cases h0 : ks = []
    · rw [if_pos h0]; omega
    · rw [if_neg h0]
      have hp : 0 < ks.length := by cases ks with
        | nil => exact absurd rfl h0
        | cons _ _ => simp
      have hq : (textBs ks).isEmpty = false := by cases hh : textBs ks with
        | nil => rw [hh] at hm; simp at hm; omega
        | cons _ _ => rfl
      unfold spellB
      rw [hq]
      simp only [Bool.false_eq_true, if_false, List.length_append, List.length_singleton]
      omega
theorem textBs_len : ∀ l : List Tm, sumN List.length (textBs l) ≤ 2 * costTs l
  | [] => by simp [textBs, sumN]
  | t :: ts => by
    have h1 := textB_len t
    have h2 := textBs_len ts
    simp only [textBs, sumN, costTs]
    omega
end
theorem spellB_len (v : List UInt8) (l : List Tm) (k : Nat) : (spellB v (textBs (l.take k))).length ≤ v.length + 2 * costTs l + l.length + 1 := by
  have h := textBs_len l
  have e : textBs (l.take k) = (textBs l).take k := by rw [textBs_map, textBs_map, List.map_take]
  have hl := interL_len [44] rfl (textBs (l.take k))
  have hs := sumN_take_le List.length (textBs l) k
  have hm : (textBs (l.take k)).length ≤ l.length := by rw [textBs_map]; simp; omega
  rw [e] at hl hm ⊢
  unfold spellB
  split
  · omega
  · simp only [List.length_append, List.length_singleton]; omega
theorem textL_join (l : List Tm) : joinS (textL l) ⟨#[44]⟩ = mkB (interL [44] (textBs l)) := by
  unfold joinS textL
  rw [textBs_map, List.map_map]
  rfl
@[simp] theorem mkB_list (l : List UInt8) : (mkB l).data.toList = l := rfl
@[simp] theorem mkB_size (l : List UInt8) : (mkB l).size = l.length := rfl
end Pl
namespace Cg
open Go Go.Proofs Pl
theorem k_l4Text (n : Nat) : SoundC Tryz.prog (K_l4Text n).1 (K_l4Text n).2 := by
  induction n with
  | zero => exact sound_of hm CtxOK.nil (fun _ => []) (by kernel_rfl) fun x h => absurd h.2 (Nat.not_lt_zero _)
  | succ n ih => exact sound_of hm (CtxOK.nil.and (K := K_l4Text n) ih) (fun x => A_l4Text x.1 x.2) (by kernel_rfl) fun (x : TP) hl => (by
      have ht : SmT (.mk x.1 x.2) := hl.1
      have hn : manyL x.2 < n + 1 := hl.2
      clear hl
      rw [← vc_l4Text n x]
      obtain ⟨a, b⟩ := x
      dsimp only at *
      simp [-List.getD_eq_getElem?_getD, -List.mem_cons, -Bool.forall_bool, -Bool.exists_bool, and_assoc, peta, tl_inj, ex_1, ex_2, ex_3, ex_4, ex_5, ex_6, ex_7, ex_8, ex_9, ey_2, ey_3, ey_4, ey_5, ey_6, ey_7, ey_8, ey_9]
      have k1 := (SmT.kids ht).len
      have hc : a.size + b.length + costTs b ≤ 1048576 := by have h : costT (.mk a b) ≤ 1048576 := ht; rw [costT] at h; exact h
      have hb : (bl' a).length = a.size := rfl
      have hsz : ∀ k, (spell a (b.take k)).size ≤ 2097153 * 2 := fun k => by
        have := spellB_len (bl' a) b k
        show (spellB (bl' a) (textBs (b.take k))).length ≤ _
        omega
      have ht1 : ∀ t ∈ b, (textT t).size ≤ 2097152 := fun t h => by
        have h1 := textB_len t
        have h2 : costT t ≤ 1048576 := (SmT.kids ht).mem h
        show (textB t).length ≤ _
        omega
      have key : ∀ (k : Nat) (c : UInt8), k < b.length → c = (if k = 0 then 40 else 44) →
          ({ data := { toList := (spell a (List.take k b)).data.toList ++ c :: (textT (b.getD k dT)).data.toList } } : ByteArray) = spell a (b.take (k + 1)) := fun k c hk hc => by
        show mkB _ = mkB _
        rw [spellB_step hk, ← hc]
        congr 1
        show spellB (bl' a) (textBs (b.take k)) ++ c :: textB (b.getD k dT) = _
        simp
      have sz : ∀ (l : List UInt8) (c : UInt8), (ByteArray.mk ⟨l ++ [c]⟩).size = l.length + 1 := fun l c => by
        show (l ++ [c]).length = _
        simp
      refine ⟨⟨0, by simp, by show a = mkB _; rfl, rfl⟩, fun k hk => ⟨fun hlt => ⟨fun h0 => ?_, fun h0 => ?_⟩, fun hge => ⟨fun h0 => ?_, fun h0 => ?_⟩⟩⟩
      · have h1 := hsz k
        have h2 := ht1 _ (getD_mem dT hlt)
        refine ⟨by omega, hlt, (SmT.kids ht).mem (getD_mem dT hlt), by have := manyL_kids (getD_mem dT hlt); omega, ?_, k + 1, hlt, by omega, key k 40 hlt (by rw [if_pos h0]), wrap_small (by omega) (by omega)⟩
        rw [sz]
        have h3 : (spell a (b.take k)).data.toList.length = (spell a (b.take k)).size := rfl
        omega
      · have h1 := hsz k
        have h2 := ht1 _ (getD_mem dT hlt)
        refine ⟨by omega, hlt, (SmT.kids ht).mem (getD_mem dT hlt), by have := manyL_kids (getD_mem dT hlt); omega, ?_, k + 1, hlt, by omega, key k 44 hlt (by rw [if_neg h0]), wrap_small (by omega) (by omega)⟩
        rw [sz]
        have h3 : (spell a (b.take k)).data.toList.length = (spell a (b.take k)).size := rfl
        omega
      · have h1 := hsz k
        refine ⟨by omega, ?_⟩
        show mkB _ = mkB _
        rw [textB_mk, if_neg (by intro e; rw [e] at h0; simp at h0), List.take_of_length_le (by omega)]
        rfl
      · show mkB _ = mkB _
        rw [textB_mk, if_pos h0, h0, List.take_nil]
        rfl)
theorem k_lText : SoundC Tryz.prog K_lText.1 K_lText.2 := SoundC.fam (fun x => manyL x.2) fun n => k_l4Text n
theorem k_termText (n : Nat) : SoundC Tryz.prog (K_termText n).1 (K_termText n).2 := by
  induction n with
  | zero => exact sound_of hm CtxOK.nil (fun _ => []) (by kernel_rfl) fun x h => absurd h.2 (Nat.not_lt_zero _)
  | succ n ih => exact sound_of hm ((CtxOK.nil.and k_Join).and (K := K_termText n) ih) (fun x => A_termText x.1 x.2) (by kernel_rfl) fun (x : TP) hl => (by
      have ht : SmT (.mk x.1 x.2) := hl.1
      have hn : manyL x.2 < n + 1 := hl.2
      clear hl
      rw [← vc_termText n x]
      obtain ⟨a, b⟩ := x
      dsimp only at *
      simp [-List.getD_eq_getElem?_getD, -List.mem_cons, -Bool.forall_bool, -Bool.exists_bool, and_assoc, peta, tl_inj, ex_1, ex_2, ex_3, ex_4, ex_5, ex_6, ex_7, ex_8, ex_9, ey_2, ey_3, ey_4, ey_5, ey_6, ey_7, ey_8, ey_9]
      have k1 := (SmT.kids ht).len
      have hc : a.size + b.length + costTs b ≤ 1048576 := by have h : costT (.mk a b) ≤ 1048576 := ht; rw [costT] at h; exact h
      have hll : ∀ k, (textL (b.take k)).length ≤ b.length := fun k => by unfold textL; simp; omega
      refine ⟨fun h0 => ?_, fun h0 => ⟨⟨0, by simp, h0, rfl, rfl, rfl⟩, fun k hk _ => ⟨fun hlt => ?_, fun hge => ?_⟩⟩⟩
      · show a = mkB _
        rw [textB_mk, if_pos h0]; rfl
      · have hs1 : textL (b.take (k + 1)) = textL (b.take k) ++ [textT (b.getD k dT)] := by
          unfold textL; rw [take_getD dT hlt]; simp
        have h1 := hll k
        refine ⟨hlt, (SmT.kids ht).mem (getD_mem dT hlt), by have := manyL_kids (getD_mem dT hlt); omega, by omega, k + 1, hlt, h0, by omega, by rw [hs1]; simp, wrap_small (by omega) (by omega), ?_⟩
        rw [hs1]; exact strs_push
      · rw [List.take_of_length_le (by omega), textL_join]
        have hb : (bl' a).length = a.size := rfl
        have hsum := textBs_len b
        have hl := interL_len [44] rfl (textBs b)
        have hm : (textBs b).length = b.length := by rw [textBs_map]; simp
        have hlb : (textL b).length = b.length := by unfold textL; simp
        have sz : ∀ l : List UInt8, (ByteArray.mk ⟨l⟩).size = l.length := fun l => rfl
        have ha : a.data.toList.length = a.size := rfl
        simp only [mkB_list, mkB_size, sz, List.length_append, List.length_cons, List.length_nil]
        refine ⟨by show (a.size : Int) + 1 ≤ _; omega, by omega, by omega, by omega, by omega, ?_⟩
        show mkB _ = mkB _
        rw [textB_mk, if_neg h0]
        have hq : (textBs b).isEmpty = false := by cases hh : textBs b with
          | nil => rw [hh] at hm; simp at hm; exact absurd (List.length_eq_zero_iff.1 hm.symm) h0
          | cons _ _ => rfl
        unfold spellB
        rw [hq]
        simp [bl'])
theorem k_tText : SoundC Tryz.prog K_tText.1 K_tText.2 := SoundC.fam (fun x => manyL x.2) fun n => k_termText n
theorem k_l6None : SoundC Tryz.prog K_l6None.1 K_l6None.2 := sound_of hm CtxOK.nil (fun _ => []) (by kernel_rfl) fun (x : TP) hl => (by
  rw [← vc_l6None x]
  obtain ⟨a, b⟩ := x
  dsimp only at *
  simp [-List.getD_eq_getElem?_getD, -List.mem_cons, -Bool.forall_bool, -Bool.exists_bool, and_assoc, peta, tl_inj, ex_1, ex_2, ex_3, ex_4, ex_5, ex_6, ex_7, ex_8, ex_9, ey_2, ey_3, ey_4, ey_5, ey_6, ey_7, ey_8, ey_9]
  unfold noneT
  have e : a.toList = [] ↔ a = ByteArray.empty := by
    rw [← tl_inj (b := ByteArray.empty)]
    have : ByteArray.empty.toList = [] := by rw [ByteArray.toList_eq]; rfl
    rw [this]
  refine ⟨fun h => ?_, fun h => ?_⟩
  · rw [decide_eq_true (e.1 h), Bool.true_and, Bool.beq_eq_decide_eq]
    congr 1
    simp only [eq_iff_iff, List.length_eq_zero_iff, Int.natCast_eq_zero]
  · rw [decide_eq_false (fun h2 => h (e.2 h2))]; rfl)
theorem k_isNone : SoundC Tryz.prog K_isNone.1 K_isNone.2 := sound_of hm CtxOK.nil (fun _ => []) (by kernel_rfl) fun (x : TP) hl => (by
  rw [← vc_isNone x]
  obtain ⟨a, b⟩ := x
  dsimp only at *
  simp [-List.getD_eq_getElem?_getD, -List.mem_cons, -Bool.forall_bool, -Bool.exists_bool, and_assoc, peta, tl_inj, ex_1, ex_2, ex_3, ex_4, ex_5, ex_6, ex_7, ex_8, ex_9, ey_2, ey_3, ey_4, ey_5, ey_6, ey_7, ey_8, ey_9]
  unfold noneT
  have e : a.toList = [] ↔ a = ByteArray.empty := by
    rw [← tl_inj (b := ByteArray.empty)]
    have : ByteArray.empty.toList = [] := by rw [ByteArray.toList_eq]; rfl
    rw [this]
  refine ⟨fun h => ?_, fun h => ?_⟩
  · rw [decide_eq_true (e.1 h), Bool.true_and, Bool.beq_eq_decide_eq]
    congr 1
    simp only [eq_iff_iff, List.length_eq_zero_iff, Int.natCast_eq_zero]
  · rw [decide_eq_false (fun h2 => h (e.2 h2))]; rfl)
theorem num_step {nums : List Tm} {times : List Int} {k : Nat} (h1 : k < nums.length) (h2 : k < times.length) (he : numOk none nums times = numOk (prevN nums k) (nums.drop k) (times.drop k)) :
    (right (nums.getD k dT) = false → numOk none nums times = false) ∧ (timeOk (times.getD k 0) = false → numOk none nums times = false) ∧ (above (prevN nums k) (nums.getD k dT) = false → numOk none nums times = false) ∧
    (right (nums.getD k dT) = true → timeOk (times.getD k 0) = true → above (prevN nums k) (nums.getD k dT) = true → numOk none nums times = numOk (prevN nums (k + 1)) (nums.drop (k + 1)) (times.drop (k + 1))) := by
  rw [drop_get dT h1, drop_get 0 h2] at he
  simp only [numOk] at he
  refine ⟨fun h => by rw [he, h]; rfl, fun h => by rw [he, h]; simp, fun h => by rw [he, h]; simp, fun a1 a2 a3 => ?_⟩
  rw [he, a1, a2, a3]
  simp [prevN, -List.getD_eq_getElem?_getD]
theorem num_end {p : Option Tm} {nums : List Tm} {times : List Int} {k : Nat} (h1 : nums.length ≤ k) : numOk p (nums.drop k) (times.drop k) = true := by
  rw [drop_end (by omega)]; cases times.drop k <;> rfl
theorem numOk_right : ∀ {nums : List Tm} {times : List Int} {p : Option Tm}, nums.length = times.length → numOk p nums times = true → ∀ t ∈ nums, right t = true
  | [], _, _, _, _, t, h => by cases h
  | x :: nums, [], _, hl, _, _, _ => by simp at hl
  | x :: nums, n :: times, p, hl, h, t, ht => by
    simp only [numOk, Bool.and_eq_true] at h
    rcases List.mem_cons.1 ht with e | e
    · subst e; exact h.1.1.1
    · exact numOk_right (by simpa using hl) h.2 t e
theorem head_iff (kind : Int) (a b : TP) (nums : List Tm) (times : List Int) (bound : Int) (strict : Bool) : sumHead (kind, a, b, nums, times, bound, strict) = true ↔ noneT a = true ∧ noneT b = true ∧ nums.length = times.length ∧ 1 ≤ nums.length ∧ nums.length ≤ 4 ∧ -1000 ≤ bound ∧ bound ≤ 1000 := by
  simp only [sumHead, Bool.and_eq_true, decide_eq_true_eq, and_assoc]
theorem above_prev {nums : List Tm} {k : Nat} (h : 0 < k) : above (prevN nums k) (nums.getD k dT) = Op.bytesLess (textT (nums.getD (k - 1) dT)).toList (textT (nums.getD k dT)).toList := by
  unfold prevN; rw [if_neg (by omega)]; rfl
theorem above_none {nums : List Tm} {k : Nat} (h : k = 0) : above (prevN nums k) (nums.getD k dT) = true := by
  unfold prevN; rw [if_pos h]; rfl
theorem timeOk_iff {n : Int} : timeOk n = true ↔ n ≠ 0 ∧ -50 ≤ n ∧ n ≤ 50 := by
  simp only [timeOk, Bool.and_eq_true, decide_eq_true_eq, and_assoc]
theorem timeOk_no {n : Int} (h : ¬ (n ≠ 0 ∧ -50 ≤ n ∧ n ≤ 50)) : timeOk n = false := by
  cases e : timeOk n with
  | false => rfl
  | true => exact absurd (timeOk_iff.1 e) h

theorem k_l6Sum : SoundC Tryz.prog K_l6Sum.1 K_l6Sum.2 := sound_of hm (((CtxOK.nil.and k_lText).and k_l4Right).and k_l6None) (fun x => A_l6Sum x) (by kernel_rfl) fun (x : Atm) hl => (by
  have hs : SmA x := hl
  clear hl
  rw [← vc_l6Sum x]
  obtain ⟨kind, ⟨a, b⟩, ⟨c, d⟩, nums, times, bound, strict⟩ := x
  dsimp only at *
  simp [-List.getD_eq_getElem?_getD, -List.mem_cons, -Bool.forall_bool, -Bool.exists_bool, and_assoc, peta, tl_inj, ex_1, ex_2, ex_3, ex_4, ex_5, ex_6, ex_7, ex_8, ex_9, ey_2, ey_3, ey_4, ey_5, ey_6, ey_7, ey_8, ey_9]
  obtain ⟨_, _, q3, q4⟩ : SmT (.mk a b) ∧ SmT (.mk c d) ∧ SmTs nums ∧ times.length ≤ 1048576 := SmA.parts hs
  have q5 := q3.len
  have hd := head_iff kind (a, b) (c, d) nums times bound strict
  generalize hX : ((kind, (a, b), (c, d), nums, times, bound, strict) : Atm) = X at *
  have eN : sumRight X = (sumHead X && numOk none nums times) := by subst hX; rfl
  clear hs
  have noH : (sumHead X = true → False) → sumRight X = false := fun h => by
    rw [eN]
    cases e : sumHead X with
    | false => rfl
    | true => exact (h e).elim
  have noN : numOk none nums times = false → sumRight X = false := fun h => by rw [eN, h]; simp
  refine ⟨fun g1 => noH fun h => (by rw [(hd.1 h).1] at g1; cases g1), fun g1 => ⟨fun g2 => noH fun h => (by rw [(hd.1 h).2.1] at g2; cases g2), fun g2 => ⟨fun g3 => noH fun h => (by have := hd.1 h; omega), fun g3 => ⟨fun g4 => noH fun h => (by have := hd.1 h; omega), fun g4 => ⟨fun g5 => noH fun h => (by have := hd.1 h; omega), fun g5 => ⟨fun g6 => noH fun h => (by have := hd.1 h; omega), fun g6 => ⟨fun g7 => noH fun h => (by have := hd.1 h; omega), fun g7 => ?_⟩⟩⟩⟩⟩⟩⟩
  have g3' : nums.length = times.length := by omega
  have hh : sumHead X = true := hd.2 ⟨g1, g2, by omega, by omega, by omega, g6, g7⟩
  refine ⟨hh, ⟨0, by simp, by simp [prevN], rfl⟩, fun k _ hk he => ⟨fun hlt => ?_, fun hge => ?_⟩⟩
  · obtain ⟨e1, e2, e3, e4⟩ := num_step hlt (by omega) he
    refine ⟨by omega, hlt, q3.mem (getD_mem dT hlt), fun h => noN (e1 h), fun r1 => ⟨fun h => noN (e2 (timeOk_no (by omega))), fun r2 => ⟨fun h => noN (e2 (timeOk_no (by omega))), fun r3 => ⟨fun h => noN (e2 (timeOk_no (by omega))), fun r4 => ⟨fun hp => ?_, fun hz => ⟨hh, k + 1, hlt, e4 r1 (timeOk_iff.2 ⟨r2, r3, r4⟩) (above_none hz), by omega, wrap_small (by omega) (by omega)⟩⟩⟩⟩⟩⟩
    rw [wrap_small (x := (k : Int) - 1) (by omega) (by omega)]
    have e : ((k : Int) - 1).toNat = k - 1 := by omega
    rw [e]
    have hab := above_prev (nums := nums) hp
    exact ⟨by omega, by omega, by omega, q3.mem (getD_mem dT (by omega)), hlt, q3.mem (getD_mem dT hlt), fun h => noN (e3 (by rw [hab]; exact h)), fun h => ⟨hh, k + 1, hlt, e4 r1 (timeOk_iff.2 ⟨r2, r3, r4⟩) (by rw [hab]; exact h), by omega, wrap_small (by omega) (by omega)⟩⟩
  · rw [eN, hh, he, num_end hge]; rfl)
theorem k_l6Right : SoundC Tryz.prog K_l6Right.1 K_l6Right.2 := sound_of hm ((CtxOK.nil.and k_l4Right).and k_l6Sum) (fun _ => []) (by kernel_rfl) fun (x : Atm) hl => (by
  have hs : SmA x := hl
  clear hl
  rw [← vc_l6Right x]
  obtain ⟨kind, ⟨a, b⟩, ⟨c, d⟩, nums, times, bound, strict⟩ := x
  dsimp only at *
  simp [-List.getD_eq_getElem?_getD, -List.mem_cons, -Bool.forall_bool, -Bool.exists_bool, and_assoc, peta, tl_inj, ex_1, ex_2, ex_3, ex_4, ex_5, ex_6, ex_7, ex_8, ex_9, ey_2, ey_3, ey_4, ey_5, ey_6, ey_7, ey_8, ey_9]
  obtain ⟨q1, q2, _, _⟩ := SmA.parts hs
  have e2 : kind = 2 → atomRight (kind, (a, b), (c, d), nums, times, bound, strict) = sumRight (kind, (a, b), (c, d), nums, times, bound, strict) := fun h => by unfold atomRight; rw [if_pos h]
  have e1 : ¬ kind = 2 → atomRight (kind, (a, b), (c, d), nums, times, bound, strict) = (decide (kind = 1) && (right (.mk a b) && right (.mk c d) && decide (nums = []) && decide (times = []) && decide (bound = 0) && !strict)) := fun h => by unfold atomRight; rw [if_neg h]; rfl
  refine ⟨fun h => ⟨hs, (e2 h).symm⟩, fun h => ⟨fun g => ⟨q1, fun g1 => ⟨q2, fun g2 => ⟨fun g3 => ⟨fun g4 => ⟨fun g5 => ?_, fun g5 => ?_⟩, fun g4 => ?_⟩, fun g3 => ?_⟩, fun g2 => ?_⟩, fun g1 => ?_⟩, fun g => ?_⟩⟩
  · rw [e1 h, g1, g2, decide_eq_true g, decide_eq_true g3, decide_eq_true g4, decide_eq_true g5]; simp
  · rw [e1 h, decide_eq_false g5]; simp
  · rw [e1 h, decide_eq_false g4]; simp
  · rw [e1 h, decide_eq_false g3]; simp
  · rw [e1 h, g2]; simp
  · rw [e1 h, g1]; simp
  · rw [e1 h, decide_eq_false g]; simp)
theorem k_Atomok : SoundC Tryz.prog K_Atomok.1 K_Atomok.2 := sound_of hm ((((CtxOK.nil.and k_tText).and k_within).and k_isNone).and k_isTerm) (fun x => A_Atomok x) (by kernel_rfl) fun (x : Atm) hl => (by
  have hs : SmA x := hl
  clear hl
  rw [← vc_Atomok x]
  obtain ⟨kind, ⟨a, b⟩, ⟨c, d⟩, nums, times, bound, strict⟩ := x
  dsimp only at *
  simp [-List.getD_eq_getElem?_getD, -List.mem_cons, -Bool.forall_bool, -Bool.exists_bool, and_assoc, peta, tl_inj, ex_1, ex_2, ex_3, ex_4, ex_5, ex_6, ex_7, ex_8, ex_9, ey_2, ey_3, ey_4, ey_5, ey_6, ey_7, ey_8, ey_9]
  obtain ⟨q1, q2, q3, q4⟩ : SmT (.mk a b) ∧ SmT (.mk c d) ∧ SmTs nums ∧ times.length ≤ 1048576 := SmA.parts hs
  have q5 := q3.len
  have hd := head_iff kind (a, b) (c, d) nums times bound strict
  have e1 : ¬ kind = 2 → atomRight (kind, (a, b), (c, d), nums, times, bound, strict) = (decide (kind = 1) && (right (.mk a b) && right (.mk c d) && decide (nums = []) && decide (times = []) && decide (bound = 0) && !strict)) := fun h => by unfold atomRight; rw [if_neg h]; rfl
  have e2 : kind = 2 → atomRight (kind, (a, b), (c, d), nums, times, bound, strict) = (sumHead (kind, (a, b), (c, d), nums, times, bound, strict) && numOk none nums times) := fun h => by unfold atomRight; rw [if_pos h]; rfl
  generalize hX : ((kind, (a, b), (c, d), nums, times, bound, strict) : Atm) = X at *
  clear hs
  refine ⟨fun g => ?_, fun g => ⟨fun g' => ?_, fun g' => by rw [e1 g', decide_eq_false g]; simp⟩⟩
  · have h : ¬ kind = 2 := by omega
    refine ⟨q1, fun g1 => ⟨q2, fun g2 => ⟨fun g3 => ⟨fun g4 => ⟨fun g5 => ?_, fun g5 => ?_⟩, fun g4 => ?_⟩, fun g3 => ?_⟩, fun g2 => ?_⟩, fun g1 => ?_⟩
    · rw [e1 h, g1, g2, decide_eq_true g, decide_eq_true g3, decide_eq_true g4, decide_eq_true g5]; simp
    · rw [e1 h, decide_eq_false g5]; simp
    · rw [e1 h, decide_eq_false g4]; simp
    · rw [e1 h, decide_eq_false g3]; simp
    · rw [e1 h, g2]; simp
    · rw [e1 h, g1]; simp
  · have eN := e2 g'
    have noH : (sumHead X = true → False) → atomRight X = false := fun h => by
      rw [eN]
      cases e : sumHead X with
      | false => rfl
      | true => exact (h e).elim
    have noN : numOk none nums times = false → atomRight X = false := fun h => by rw [eN, h]; simp
    have win : ∀ {x lo hi : Int}, withinI x lo hi = false ↔ ¬ (lo ≤ x ∧ x ≤ hi) := fun {x lo hi} => by
      simp only [withinI, Bool.and_eq_false_iff, decide_eq_false_iff_not]; omega
    have wiy : ∀ {x lo hi : Int}, withinI x lo hi = true ↔ (lo ≤ x ∧ x ≤ hi) := fun {x lo hi} => by
      simp only [withinI, Bool.and_eq_true, decide_eq_true_eq]
    refine ⟨fun g1 => noH fun h => (by rw [(hd.1 h).1] at g1; cases g1), fun g1 => ⟨fun g2 => noH fun h => (by rw [(hd.1 h).2.1] at g2; cases g2), fun g2 => ⟨fun g3 => noH fun h => (by have := hd.1 h; have := win.1 g3; omega), fun g3 => ⟨fun g4 => noH fun h => (by have := hd.1 h; omega), fun g4 => ⟨fun g5 => noH fun h => (by have := hd.1 h; have := win.1 g5; omega), fun g5 => ?_⟩⟩⟩⟩⟩
    have g3' := wiy.1 g3
    have g5' := wiy.1 g5
    have hh : sumHead X = true := hd.2 ⟨g1, g2, by omega, by omega, by omega, g5'.1, g5'.2⟩
    refine ⟨g', hh, ⟨0, by simp, by simp [prevN], rfl⟩, fun k _ _ hk he => ⟨fun hlt => ?_, fun hge => ?_⟩⟩
    · obtain ⟨f1, f2, f3, f4⟩ := num_step hlt (by omega) he
      refine ⟨hlt, q3.mem (getD_mem dT hlt), fun h => noN (f1 h), fun r1 => ⟨by omega, fun h => noN (f2 (timeOk_no (by have := win.1 h; omega))), fun r2 => ⟨by omega, fun h => noN (f2 (timeOk_no (by omega))), fun r3 => ⟨fun hp => ?_, fun hz => ⟨g', hh, k + 1, hlt, f4 r1 (timeOk_iff.2 ⟨r3, wiy.1 r2⟩) (above_none hz), by omega, wrap_small (by omega) (by omega)⟩⟩⟩⟩⟩
      rw [wrap_small (x := (k : Int) - 1) (by omega) (by omega)]
      have e : ((k : Int) - 1).toNat = k - 1 := by omega
      rw [e]
      have hab := above_prev (nums := nums) hp
      exact ⟨by omega, by omega, by omega, q3.mem (getD_mem dT (by omega)), q3.mem (getD_mem dT hlt), fun h => noN (f3 (by rw [hab]; exact h)), fun h => ⟨g', hh, k + 1, hlt, f4 r1 (timeOk_iff.2 ⟨r3, wiy.1 r2⟩) (by rw [hab]; exact h), by omega, wrap_small (by omega) (by omega)⟩⟩
    · rw [eN, hh, he, num_end hge]; rfl)
theorem right_eq {kind : Int} {a b : TP} {nums : List Tm} {times : List Int} {bound : Int} {strict : Bool} (h : atomRight (kind, a, b, nums, times, bound, strict) = true) :
    (kind = 1 → right (.mk a.1 a.2) = true ∧ right (.mk b.1 b.2) = true) ∧ (¬ kind = 1 → ∀ t ∈ nums, right t = true) := by
  unfold atomRight at h
  split at h
  · rename_i h2
    have h2 : kind = 2 := h2
    refine ⟨fun h1 => by omega, fun _ => ?_⟩
    simp only [sumRight, Bool.and_eq_true] at h
    exact numOk_right ((head_iff kind a b nums times bound strict).1 h.1).2.2.1 h.2
  · simp only [eqRight, Bool.and_eq_true, decide_eq_true_eq] at h
    exact ⟨fun _ => ⟨h.2.1.1.1.1.1, h.2.1.1.1.1.2⟩, fun h1 => absurd h.1 h1⟩
end Cg

/-
  What is left to show of each function's code, printed by a program: Lit. No condition.
-/
set_option maxRecDepth 100000
set_option linter.unusedVariables false
namespace Cg
open Go Go.Proofs
end Cg

/-
  The codes' contracts: lists of literals: sizes, copies, equality. No condition.
-/
set_option linter.unusedVariables false
set_option linter.unusedSimpArgs false
set_option maxRecDepth 100000
set_option maxHeartbeats 1000000
namespace Cg
open Go Go.Proofs Pl
theorem SmLs.mem {l : List Ltr} (h : SmLs l) {x : Ltr} (hx : x ∈ l) : SmA x.1 := by
  have h1 : l.length + sumN costL l ≤ 1048576 := h
  have h2 := sumN_mem costL hx
  have h3 : costL x = costA x.1 := rfl
  show costA x.1 ≤ 1048576
  omega
theorem SmLs.len {l : List Ltr} (h : SmLs l) : l.length ≤ 1048576 := by
  have h1 : l.length + sumN costL l ≤ 1048576 := h
  omega
end Cg
