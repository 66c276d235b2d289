/-
  What the law leans on, part 2. No condition.
-/
import Derived.Test.YtfgchlkagiihnaaGreatDoorProg
import Derived.Shelf.Strconv.Itoa3
import Derived.Shelf.Strings.OnBuilder
import Derived.Shelf.Strconv.AtoiAll
import Derived.Shelf.Strings.SplitShaped
import Derived.Shelf.Small.Wraps
import Derived.Shelf.Strings.Cut
import Derived.Shelf.Strings.Prefix
import Derived.Lib.Split
import Derived.Lib.AtoiAllCases
import Derived.Test.YtfgchlkagiihnaaGreatDoorFnExactAtomReadB1
/-
  What the law leans on, part 2. No condition.
-/
/-
  What is left to show of each function's code, printed by a program: Tsort. No condition.
-/
set_option maxRecDepth 100000
set_option linter.unusedVariables false
namespace Cg
open Go Go.Proofs
theorem vc_l4Shape0 (x : Pl.TP) : (false = Pl.shape (0 : Nat) (Pl.Tree.mk x.1 x.2)) = Goal Tryz.prog [K_sNameOk] ([]) (K_l4Shape 0).1 (K_l4Shape 0).2 (x) := by kernel_rfl

theorem vc_l4Shape (n : Nat) (x : Pl.TP) : (∃ x_1 : ByteArray,
 (x.1 = x_1 ∧ True) ∧ x_1.size ≤ (1048576 : Nat) ∧ condP (!Pl.nameOk x_1) (false = Pl.shape (n + (1 : Nat)) (Pl.Tree.mk x.1 x.2))
 (condP (decide ((↑x.2.length : Int) > (2 : Int))) (false = Pl.shape (n + (1 : Nat)) (Pl.Tree.mk x.1 x.2))
 ((∃ x_2 : Nat,
 (x_2 ≤ x.2.length ∧ Pl.shape (n + (1 : Nat)) (Pl.Tree.mk x.1 x.2) = (List.drop x_2 x.2).all (Pl.shape n)) ∧ ((↑(n + (1 : Nat)) : Int) = (↑(n + (1 : Nat)) : Int) ∧ (0 : Nat) = (0 : Nat) ∧ (0 : Int) = (↑x_2 : Int) ∧ True) ∧ (x.1 = x.1 ∧ Is (terms x.2) (terms x.2) ∧ True) ∧ True) ∧ ∀ (x_2 : Nat),
 x_2 ≤ x.2.length ∧ Pl.shape (n + (1 : Nat)) (Pl.Tree.mk x.1 x.2) = (List.drop x_2 x.2).all (Pl.shape n) →
 condP (decide ((↑x_2 : Int) < (↑x.2.length : Int)))
 (((0 : Int) ≤ (↑x_2 : Int) ∧ (↑x_2 : Int) < (↑x.2.length : Int)) ∧ x_2 < x.2.length ∧ ∃ x_3 : Pl.TP,
 ((Pl.Tree.val (x.2.getD x_2 Pl.dT) = x_3.1 ∧ Is (kidsT (x.2.getD x_2 Pl.dT)) (terms x_3.2) ∧ True) ∧ IntKind.i64.wrap ((↑(n + (1 : Nat)) : Int) - (1 : Int)) = (↑n : Int) ∧ True) ∧ (SmT (Pl.Tree.mk x_3.1 x_3.2) ∧ n ≤ (10 : Nat)) ∧ condP (!Pl.shape n (Pl.Tree.mk x_3.1 x_3.2)) (false = Pl.shape (n + (1 : Nat)) (Pl.Tree.mk x.1 x.2))
 (Exists fun (x' : Nat) =>
 (x' ≤ x.2.length ∧ Pl.shape (n + (1 : Nat)) (Pl.Tree.mk x.1 x.2) = (List.drop x' x.2).all (Pl.shape n)) ∧ x.2.length - x' < x.2.length - x_2 ∧ ((↑(n + (1 : Nat)) : Int) = (↑(n + (1 : Nat)) : Int) ∧ (0 : Nat) = (0 : Nat) ∧ IntKind.i64.wrap ((↑x_2 : Int) + (1 : Int)) = (↑x' : Int) ∧ True) ∧ (x.1 = x.1 ∧ Is (terms x.2) (terms x.2) ∧ True) ∧ True))
 (true = Pl.shape (n + (1 : Nat)) (Pl.Tree.mk x.1 x.2))))) = Goal Tryz.prog [K_sNameOk, (K_l4Shape n)] (A_l4Shape n x.1 x.2) (K_l4Shape (n + 1)).1 (K_l4Shape (n + 1)).2 (x) := by kernel_rfl

theorem vc_l4Many0 (x : Pl.TP) : ((∃ x_1 : Unit,
 True ∧ ((↑(0 : Nat) : Int) = (0 : Int) ∧ (0 : Nat) = (0 : Nat) ∧ (1 : Int) = (1 : Int) ∧ (0 : Int) = (0 : Int) ∧ True) ∧ (x.1 = x.1 ∧ Is (terms x.2) (terms x.2) ∧ True) ∧ True) ∧ ∀ (x_1 : Unit),
 True →
 condP (decide ((0 : Int) < (↑x.2.length : Int))) ((1 : Int) = (↑(Pl.manyD (0 : Nat) (Pl.Tree.mk x.1 x.2)) : Int))
 ((1 : Int) = (↑(Pl.manyD (0 : Nat) (Pl.Tree.mk x.1 x.2)) : Int))) = Goal Tryz.prog [] (A_l4Many0 x.1 x.2) (K_l4Many 0).1 (K_l4Many 0).2 (x) := by kernel_rfl

theorem vc_l4Many (n : Nat) (x : Pl.TP) : ((∃ x_1 : Nat,
 x_1 ≤ x.2.length ∧ ((↑(n + (1 : Nat)) : Int) = (↑(n + (1 : Nat)) : Int) ∧ (0 : Nat) = (0 : Nat) ∧ (1 : Int) = (↑((1 : Nat) + Pl.sumN (Pl.manyD n) (List.take x_1 x.2)) : Int) ∧ (0 : Int) = (↑x_1 : Int) ∧ True) ∧ (x.1 = x.1 ∧ Is (terms x.2) (terms x.2) ∧ True) ∧ True) ∧ ∀ (x_1 : Nat),
 x_1 ≤ x.2.length →
 condP (decide ((↑x_1 : Int) < (↑x.2.length : Int)))
 (condP (decide ((↑(n + (1 : Nat)) : Int) > (0 : Int)))
 (((0 : Int) ≤ (↑x_1 : Int) ∧ (↑x_1 : Int) < (↑x.2.length : Int)) ∧ x_1 < x.2.length ∧ ∃ x_2 : Pl.TP,
 ((Pl.Tree.val (x.2.getD x_1 Pl.dT) = x_2.1 ∧ Is (kidsT (x.2.getD x_1 Pl.dT)) (terms x_2.2) ∧ True) ∧ IntKind.i64.wrap ((↑(n + (1 : Nat)) : Int) - (1 : Int)) = (↑n : Int) ∧ True) ∧ (SmT (Pl.Tree.mk x_2.1 x_2.2) ∧ n ≤ (10 : Nat)) ∧ Exists fun (x' : Nat) =>
 x' ≤ x.2.length ∧ x.2.length - x' < x.2.length - x_1 ∧ ((↑(n + (1 : Nat)) : Int) = (↑(n + (1 : Nat)) : Int) ∧ (0 : Nat) = (0 : Nat) ∧ IntKind.i64.wrap ((↑((1 : Nat) + Pl.sumN (Pl.manyD n) (List.take x_1 x.2)) : Int) + (↑(Pl.manyD n (Pl.Tree.mk x_2.1 x_2.2)) : Int)) =
 (↑((1 : Nat) + Pl.sumN (Pl.manyD n) (List.take x' x.2)) : Int) ∧ IntKind.i64.wrap ((↑x_1 : Int) + (1 : Int)) = (↑x' : Int) ∧ True) ∧ (x.1 = x.1 ∧ Is (terms x.2) (terms x.2) ∧ True) ∧ True)
 ((↑((1 : Nat) + Pl.sumN (Pl.manyD n) (List.take x_1 x.2)) : Int) = (↑(Pl.manyD (n + (1 : Nat)) (Pl.Tree.mk x.1 x.2)) : Int)))
 ((↑((1 : Nat) + Pl.sumN (Pl.manyD n) (List.take x_1 x.2)) : Int) = (↑(Pl.manyD (n + (1 : Nat)) (Pl.Tree.mk x.1 x.2)) : Int))) = Goal Tryz.prog [(K_l4Many n)] (A_l4Many n x.1 x.2) (K_l4Many (n + 1)).1 (K_l4Many (n + 1)).2 (x) := by kernel_rfl

theorem vc_l4Right (a : ByteArray) (b : List Pl.Tm) : (∃ x : Pl.TP,
 ((a = x.1 ∧ Is (terms b) (terms x.2) ∧ True) ∧ (4 : Int) = (↑(4 : Nat) : Int) ∧ True) ∧ (SmT (Pl.Tree.mk x.1 x.2) ∧ (4 : Nat) ≤ (10 : Nat)) ∧ condP (Pl.shape (4 : Nat) (Pl.Tree.mk x.1 x.2))
 (∃ x : Pl.TP,
 ((a = x.1 ∧ Is (terms b) (terms x.2) ∧ True) ∧ (4 : Int) = (↑(4 : Nat) : Int) ∧ True) ∧ (SmT (Pl.Tree.mk x.1 x.2) ∧ (4 : Nat) ≤ (10 : Nat)) ∧ decide ((↑(Pl.manyD (4 : Nat) (Pl.Tree.mk x.1 x.2)) : Int) ≤ (12 : Int)) = Pl.right (Pl.Tree.mk a b))
 (false = Pl.right (Pl.Tree.mk a b))) = Goal Tryz.prog [(K_l4Shape 4), (K_l4Many 4)] ([]) K_l4Right.1 K_l4Right.2 ((a, b)) := by kernel_rfl

theorem vc_termSize0 (x : Pl.TP) : (∃ x_1 : ByteArray,
 (x.1 = x_1 ∧ True) ∧ x_1.size ≤ (1048576 : Nat) ∧ condP (!Pl.nameOk x_1) ((13 : Int) = (↑(Pl.tsz (0 : Nat) (Pl.Tree.mk x.1 x.2)) : Int))
 (condP (decide ((↑x.2.length : Int) > (2 : Int))) ((13 : Int) = (↑(Pl.tsz (0 : Nat) (Pl.Tree.mk x.1 x.2)) : Int))
 ((13 : Int) = (↑(Pl.tsz (0 : Nat) (Pl.Tree.mk x.1 x.2)) : Int)))) = Goal Tryz.prog [K_iNameOk] ([]) (K_termSize 0).1 (K_termSize 0).2 (x) := by kernel_rfl

theorem vc_termSize (n : Nat) (x : Pl.TP) : (∃ x_1 : ByteArray,
 (x.1 = x_1 ∧ True) ∧ x_1.size ≤ (1048576 : Nat) ∧ condP (!Pl.nameOk x_1) ((13 : Int) = (↑(Pl.tsz (n + (1 : Nat)) (Pl.Tree.mk x.1 x.2)) : Int))
 (condP (decide ((↑x.2.length : Int) > (2 : Int))) ((13 : Int) = (↑(Pl.tsz (n + (1 : Nat)) (Pl.Tree.mk x.1 x.2)) : Int))
 (condP (decide ((5 : Int) - (↑(n + (1 : Nat)) : Int) > (4 : Int))) ((13 : Int) = (↑(Pl.tsz (n + (1 : Nat)) (Pl.Tree.mk x.1 x.2)) : Int))
 ((∃ x_2 : Nat,
 (x_2 ≤ x.2.length ∧ x.2.length ≤ (2 : Nat)) ∧ ((5 : Int) - (↑(n + (1 : Nat)) : Int) = (5 : Int) - (↑(n + (1 : Nat)) : Int) ∧ (0 : Nat) = (0 : Nat) ∧ (1 : Int) = (↑((1 : Nat) + Pl.sumN (Pl.tsz n) (List.take x_2 x.2)) : Int) ∧ Is (terms x.2) (terms x.2) ∧ (↑x.2.length : Int) = (↑x.2.length : Int) ∧ (0 : Int) = (↑x_2 : Int) ∧ True) ∧ (x.1 = x.1 ∧ Is (terms x.2) (terms x.2) ∧ True) ∧ True) ∧ ∀ (x_2 : Nat),
 x_2 ≤ x.2.length ∧ x.2.length ≤ (2 : Nat) →
 condP (decide ((↑x_2 : Int) < (↑x.2.length : Int)))
 (((0 : Int) ≤ (↑x_2 : Int) ∧ (↑x_2 : Int) < (↑x.2.length : Int)) ∧ x_2 < x.2.length ∧ ∃ x_3 : Pl.TP,
 ((Pl.Tree.val (x.2.getD x_2 Pl.dT) = x_3.1 ∧ Is (kidsT (x.2.getD x_2 Pl.dT)) (terms x_3.2) ∧ True) ∧ IntKind.i64.wrap ((5 : Int) - (↑(n + (1 : Nat)) : Int) + (1 : Int)) = (5 : Int) - (↑n : Int) ∧ True) ∧ (SmT (Pl.Tree.mk x_3.1 x_3.2) ∧ n ≤ (4 : Nat)) ∧ Exists fun (x' : Nat) =>
 (x' ≤ x.2.length ∧ x.2.length ≤ (2 : Nat)) ∧ x.2.length - x' < x.2.length - x_2 ∧ ((5 : Int) - (↑(n + (1 : Nat)) : Int) = (5 : Int) - (↑(n + (1 : Nat)) : Int) ∧ (0 : Nat) = (0 : Nat) ∧ IntKind.i64.wrap ((↑((1 : Nat) + Pl.sumN (Pl.tsz n) (List.take x_2 x.2)) : Int) + (↑(Pl.tsz n (Pl.Tree.mk x_3.1 x_3.2)) : Int)) =
 (↑((1 : Nat) + Pl.sumN (Pl.tsz n) (List.take x' x.2)) : Int) ∧ Is (terms x.2) (terms x.2) ∧ (↑x.2.length : Int) = (↑x.2.length : Int) ∧ IntKind.i64.wrap ((↑x_2 : Int) + (1 : Int)) = (↑x' : Int) ∧ True) ∧ (x.1 = x.1 ∧ Is (terms x.2) (terms x.2) ∧ True) ∧ True)
 ((↑((1 : Nat) + Pl.sumN (Pl.tsz n) (List.take x_2 x.2)) : Int) = (↑(Pl.tsz (n + (1 : Nat)) (Pl.Tree.mk x.1 x.2)) : Int)))))) = Goal Tryz.prog [K_iNameOk, (K_termSize n)] (A_termSize n x.1 x.2) (K_termSize (n + 1)).1 (K_termSize (n + 1)).2 (x) := by kernel_rfl

theorem vc_isTerm (a : ByteArray) (b : List Pl.Tm) : (∃ x : Pl.TP,
 ((a = x.1 ∧ Is (terms b) (terms x.2) ∧ True) ∧ (1 : Int) = (5 : Int) - (↑(4 : Nat) : Int) ∧ True) ∧ (SmT (Pl.Tree.mk x.1 x.2) ∧ (4 : Nat) ≤ (4 : Nat)) ∧ decide ((↑(Pl.tsz (4 : Nat) (Pl.Tree.mk x.1 x.2)) : Int) ≤ (12 : Int)) = Pl.right (Pl.Tree.mk a b)) = Goal Tryz.prog [(K_termSize 4)] ([]) K_isTerm.1 K_isTerm.2 ((a, b)) := by kernel_rfl

end Cg

/-
  What is left to show of each function's code, printed by a program: Sort. No condition.
-/
set_option maxRecDepth 100000
set_option linter.unusedVariables false
namespace Cg
open Go Go.Proofs
theorem vc_eqTerm (n : Nat) (a : ByteArray) (b : List Pl.Tm) (c : ByteArray) (d : List Pl.Tm) : (condP (!a.toList == c.toList) (false = decide ((a, b) = (c, d)))
 (∃ x : List Pl.Tm × List Pl.Tm,
 (Is (terms b) (terms x.1) ∧ Is (terms d) (terms x.2) ∧ True) ∧ (SmTs x.1 ∧ Pl.manyL x.1 < n) ∧ condP (!decide (x.1 = x.2)) (false = decide ((a, b) = (c, d))) (true = decide ((a, b) = (c, d))))) = Goal Tryz.prog [(K_eqTermS n)] ([]) (K_eqTerm n).1 (K_eqTerm n).2 (((a, b), (c, d))) := by kernel_rfl

theorem vc_eqTermS (n : Nat) (l m : List Pl.Tm) : (condP ((↑l.length : Int) != (↑m.length : Int)) (false = decide (l = m))
 ((∃ x : Nat,
 (x ≤ l.length ∧ l.length = m.length ∧ (l = m ↔ List.drop x l = List.drop x m)) ∧ (Is (terms l) (terms l) ∧ Is (terms m) (terms m) ∧ (0 : Int) = (↑x : Int) ∧ True) ∧ True) ∧ ∀ (x : Nat),
 x ≤ l.length ∧ l.length = m.length ∧ (l = m ↔ List.drop x l = List.drop x m) →
 condP (decide ((↑x : Int) < (↑l.length : Int)))
 (((0 : Int) ≤ (↑x : Int) ∧ (↑x : Int) < (↑l.length : Int)) ∧ x < l.length ∧ ((0 : Int) ≤ (↑x : Int) ∧ (↑x : Int) < (↑m.length : Int)) ∧ x < m.length ∧ ∃ x_1 : Pl.TP × Pl.TP,
 ((Pl.Tree.val (l.getD x Pl.dT) = x_1.1.1 ∧ Is (kidsT (l.getD x Pl.dT)) (terms x_1.1.2) ∧ True) ∧ (Pl.Tree.val (m.getD x Pl.dT) = x_1.2.1 ∧ Is (kidsT (m.getD x Pl.dT)) (terms x_1.2.2) ∧ True) ∧ True) ∧ (SmT (Pl.Tree.mk x_1.1.1 x_1.1.2) ∧ Pl.manyL x_1.1.2 < n) ∧ condP (!decide (x_1.1 = x_1.2)) (false = decide (l = m))
 (Exists fun (x' : Nat) =>
 (x' ≤ l.length ∧ l.length = m.length ∧ (l = m ↔ List.drop x' l = List.drop x' m)) ∧ l.length - x' < l.length - x ∧ (Is (terms l) (terms l) ∧ Is (terms m) (terms m) ∧ IntKind.i64.wrap ((↑x : Int) + (1 : Int)) = (↑x' : Int) ∧ True) ∧ True))
 (true = decide (l = m)))) = Goal Tryz.prog [(K_eqTerm n)] (A_eqTermS l m) (K_eqTermS (n + 1)).1 (K_eqTermS (n + 1)).2 ((l, m)) := by kernel_rfl

end Cg

/-
  What is left to show of each function's code, printed by a program: Sig. No condition.
-/
set_option maxRecDepth 100000
set_option linter.unusedVariables false
namespace Cg
open Go Go.Proofs
theorem vc_sNameOk (s : ByteArray) : ((∃ x : Nat, (x ≤ s.size ∧ (Pl.bs s).all Pl.lower = (List.drop x (Pl.bs s)).all Pl.lower) ∧ (s = s ∧ (0 : Int) = (↑x : Int) ∧ True) ∧ True) ∧ ∀ (x : Nat),
 x ≤ s.size ∧ (Pl.bs s).all Pl.lower = (List.drop x (Pl.bs s)).all Pl.lower →
 condP (decide ((↑x : Int) < (↑s.size : Int)))
 (((0 : Int) ≤ (↑x : Int) ∧ (↑x : Int) < (↑s.size : Int)) ∧ condP (decide ((↑(s.data.getD x (0 : UInt8)).toNat : Int) < (97 : Int))) (false = Pl.nameOk s)
 (((0 : Int) ≤ (↑x : Int) ∧ (↑x : Int) < (↑s.size : Int)) ∧ condP (decide ((↑(s.data.getD x (0 : UInt8)).toNat : Int) > (122 : Int))) (false = Pl.nameOk s)
 (Exists fun (x' : Nat) =>
 (x' ≤ s.size ∧ (Pl.bs s).all Pl.lower = (List.drop x' (Pl.bs s)).all Pl.lower) ∧ s.size - x' < s.size - x ∧ (s = s ∧ IntKind.i64.wrap ((↑x : Int) + (1 : Int)) = (↑x' : Int) ∧ True) ∧ True)))
 (condP (decide ((↑s.size : Int) ≥ (1 : Int))) (decide ((↑s.size : Int) ≤ (2 : Int)) = Pl.nameOk s) (false = Pl.nameOk s))) = Goal Tryz.prog [] (A_sNameOk s) K_sNameOk.1 K_sNameOk.2 (s) := by kernel_rfl

theorem vc_iNameOk (s : ByteArray) : (∃ x : Int × Int × Int,
 ((↑s.size : Int) = x.1 ∧ (1 : Int) = x.2.1 ∧ (2 : Int) = x.2.2 ∧ True) ∧ True ∧ condP (!Pl.withinI x.1 x.2.1 x.2.2) (false = Pl.nameOk s)
 ((∃ x : Nat, (x ≤ s.size ∧ (Pl.bs s).all Pl.lower = (List.drop x (Pl.bs s)).all Pl.lower) ∧ (s = s ∧ (↑s.size : Int) = (↑s.size : Int) ∧ (0 : Int) = (↑x : Int) ∧ True) ∧ True) ∧ ∀ (x : Nat),
 x ≤ s.size ∧ (Pl.bs s).all Pl.lower = (List.drop x (Pl.bs s)).all Pl.lower →
 condP (decide ((↑x : Int) < (↑s.size : Int)))
 (((0 : Int) ≤ (↑x : Int) ∧ (↑x : Int) < (↑s.size : Int)) ∧ condP (decide ((↑(s.data.getD x (0 : UInt8)).toNat : Int) < (97 : Int))) (false = Pl.nameOk s)
 (((0 : Int) ≤ (↑x : Int) ∧ (↑x : Int) < (↑s.size : Int)) ∧ condP (decide ((↑(s.data.getD x (0 : UInt8)).toNat : Int) > (122 : Int))) (false = Pl.nameOk s)
 (Exists fun (x' : Nat) =>
 (x' ≤ s.size ∧ (Pl.bs s).all Pl.lower = (List.drop x' (Pl.bs s)).all Pl.lower) ∧ s.size - x' < s.size - x ∧ (s = s ∧ (↑s.size : Int) = (↑s.size : Int) ∧ IntKind.i64.wrap ((↑x : Int) + (1 : Int)) = (↑x' : Int) ∧ True) ∧ True)))
 (true = Pl.nameOk s))) = Goal Tryz.prog [K_within] (A_iNameOk s) K_iNameOk.1 K_iNameOk.2 (s) := by kernel_rfl

end Cg

/-
  The codes' contracts: words. No condition.
-/
set_option linter.unusedVariables false
set_option linter.unusedSimpArgs false
set_option maxRecDepth 100000
namespace Pl
open Go Cg
theorem bs_len (s : ByteArray) : (bs s).length = s.size := rfl
theorem data_getD (s : ByteArray) (k : Nat) : s.data.getD k 0 = (bs s).getD k 0 := by
  unfold bs
  rw [Array.getD_eq_getD_getElem?, List.getD_eq_getElem?_getD, Array.getElem?_toList]
theorem data_getE (s : ByteArray) (k : Nat) : s.data[k]?.getD 0 = (bs s).getD k 0 := by
  rw [← data_getD, Array.getD_eq_getD_getElem?]
theorem sumN_take {α : Type} (f : α → Nat) (d : α) {l : List α} {k : Nat} (h : k < l.length) : sumN f (l.take (k + 1)) = sumN f (l.take k) + f (l.getD k d) := by
  rw [List.take_succ_eq_append_getElem h]
  have : ∀ (m : List α) (x : α), sumN f (m ++ [x]) = sumN f m + f x := by
    intro m x
    induction m with
    | nil => simp [sumN]
    | cons y r ih => simp only [List.cons_append, sumN, ih]; omega
  rw [this]; simp [h]
theorem sumN_take_le {α : Type} (f : α → Nat) (l : List α) (k : Nat) : sumN f (l.take k) ≤ sumN f l := by
  induction l generalizing k with
  | nil => simp
  | cons x r ih =>
    cases k with
    | zero => simp [sumN]
    | succ k => simp only [List.take_succ_cons, sumN]; have := ih k; omega
theorem sumN_mem {α : Type} (f : α → Nat) {x : α} : ∀ {l : List α}, x ∈ l → f x ≤ sumN f l
  | y :: r, h => by
    simp only [sumN]
    cases List.mem_cons.1 h with
    | inl e => subst e; omega
    | inr e => have := sumN_mem f e; omega
end Pl
namespace Cg
open Go Go.Proofs Pl

theorem SmG.mem {s : Sig} (h : SmG s) {x : Sym} (hx : x ∈ s) : x.1.size ≤ 1048576 ∧ x.2.1.length ≤ 1048576 := by
  have h1 : s.length + sumN costY s ≤ 1048576 := h
  have h2 := sumN_mem costY hx
  have h3 : costY x = x.1.size + x.2.1.length := rfl
  omega
theorem SmG.len {s : Sig} (h : SmG s) : s.length ≤ 1048576 := by
  have h1 : s.length + sumN costY s ≤ 1048576 := h
  omega

theorem name_step {s : ByteArray} {k : Nat} (hk : k < s.size) (he : (bs s).all lower = ((bs s).drop k).all lower) :
    ((((bs s).getD k 0).toNat : Int) < 97 → nameOk s = false) ∧ (122 < (((bs s).getD k 0).toNat : Int) → nameOk s = false) ∧ (97 ≤ (((bs s).getD k 0).toNat : Int) → (((bs s).getD k 0).toNat : Int) ≤ 122 → (bs s).all lower = ((bs s).drop (k + 1)).all lower) := by
  rw [drop_get 0 (by rw [bs_len]; exact hk), List.all_cons] at he
  have no : lower ((bs s).getD k 0) = false → nameOk s = false := fun h => by
    unfold nameOk; rw [he, h]; simp
  refine ⟨fun h => no (by simp [lower, h, -List.getD_eq_getElem?_getD]), fun h => no (by simp [lower, h, -List.getD_eq_getElem?_getD]), fun h1 h2 => ?_⟩
  have : lower ((bs s).getD k 0) = true := by
    unfold lower; rw [decide_eq_false (by omega), decide_eq_false (by omega)]; rfl
  rw [he, this, Bool.true_and]

theorem k_sNameOk : SoundC Tryz.prog K_sNameOk.1 K_sNameOk.2 := sound_of hm CtxOK.nil A_sNameOk (by kernel_rfl) fun (s : ByteArray) hl => cast (vc_sNameOk s) (by
  replace hl : s.size ≤ 1048576 := hl
  simp [-List.getD_eq_getElem?_getD, -List.mem_cons, -Bool.forall_bool, -Bool.exists_bool, and_assoc, peta, tl_inj, ex_1, ex_2, ex_3, ex_4, ex_5, ex_6, ex_7, ex_8, ex_9, ey_2, ey_3, ey_4, ey_5, ey_6, ey_7, ey_8, ey_9]
  simp only [data_getE]
  refine ⟨⟨0, by simp, by simp, rfl⟩, fun k hk he => ⟨fun hlt => ?_, fun hge => ?_⟩⟩
  · obtain ⟨h1, h2, h3⟩ := name_step hlt he
    exact ⟨hlt, h1, fun h4 => ⟨hlt, h2, fun h5 => ⟨k + 1, hlt, h3 h4 h5, by omega, wrap_small (by omega) (by omega)⟩⟩⟩
  · rw [drop_end (by rw [bs_len]; omega)] at he
    unfold nameOk
    rw [he]
    refine ⟨fun h => ?_, fun h => ?_⟩
    · rw [decide_eq_true (by omega : 1 ≤ s.size)]; simp; omega
    · rw [decide_eq_false (by omega : ¬ 1 ≤ s.size)]; rfl)

theorem k_iNameOk : SoundC Tryz.prog K_iNameOk.1 K_iNameOk.2 := sound_of hm (CtxOK.nil.and k_within) A_iNameOk (by kernel_rfl) fun (s : ByteArray) hl => cast (vc_iNameOk s) (by
  replace hl : s.size ≤ 1048576 := hl
  simp [-List.getD_eq_getElem?_getD, -List.mem_cons, -Bool.forall_bool, -Bool.exists_bool, and_assoc, peta, tl_inj, ex_1, ex_2, ex_3, ex_4, ex_5, ex_6, ex_7, ex_8, ex_9, ey_2, ey_3, ey_4, ey_5, ey_6, ey_7, ey_8, ey_9]
  simp only [data_getE]
  refine ⟨fun h => ?_, fun h => ?_⟩
  · simp only [withinI, Bool.and_eq_false_iff, decide_eq_false_iff_not] at h
    unfold nameOk
    rcases h with h | h
    · rw [decide_eq_false (by omega : ¬ 1 ≤ s.size)]; rfl
    · rw [decide_eq_false (by omega : ¬ s.size ≤ 2)]; simp
  · simp only [withinI, Bool.and_eq_true, decide_eq_true_eq] at h
    refine ⟨⟨0, by simp, by simp, rfl⟩, fun k hk he => ⟨fun hlt => ?_, fun hge => ?_⟩⟩
    · obtain ⟨h1, h2, h3⟩ := name_step hlt he
      exact ⟨hlt, h1, fun h4 => ⟨hlt, h2, fun h5 => ⟨k + 1, hlt, h3 h4 h5, by omega, wrap_small (by omega) (by omega)⟩⟩⟩
    · rw [drop_end (by rw [bs_len]; omega)] at he
      unfold nameOk
      rw [he, decide_eq_true (by omega : 1 ≤ s.size), decide_eq_true (by omega : s.size ≤ 2)]
      rfl)

end Cg

/-
  The codes' contracts: terms. No condition.
-/
set_option linter.unusedVariables false
set_option linter.unusedSimpArgs false
set_option maxRecDepth 100000
set_option maxHeartbeats 4000000
namespace Pl
open Go Cg
theorem tparts' {t u : Tm} {p : Prop} : (t.val = u.val → t.kids = u.kids → p) ↔ (t = u → p) := ⟨fun h e => h (by rw [e]) (by rw [e]), fun h e1 e2 => h (Tree.ext e1 e2)⟩
theorem manyL_kids {l : List Tm} {t : Tm} (h : t ∈ l) : manyL t.kids < manyL l := by
  have := many_mem h
  have := t.many_eq
  omega
end Pl
namespace Cg
open Go Go.Proofs Pl
theorem SmTs.mem {l : List Tm} (h : SmTs l) {t : Tm} (ht : t ∈ l) : SmT t := by
  have := costT_mem ht
  have h1 : l.length + costTs l ≤ 1048576 := h
  show costT t ≤ 1048576
  omega
theorem SmTs.len {l : List Tm} (h : SmTs l) : l.length ≤ 1048576 := by
  have h1 : l.length + costTs l ≤ 1048576 := h
  omega
theorem SmT.kids {v : ByteArray} {ks : List Tm} (h : SmT (.mk v ks)) : SmTs ks := by
  have h1 : costT (.mk v ks) ≤ 1048576 := h
  rw [costT_eq] at h1
  simp only [Tree.val, Tree.kids] at h1
  show ks.length + costTs ks ≤ 1048576
  omega

theorem k_eqTerms (n : Nat) : SoundC Tryz.prog (K_eqTermS n).1 (K_eqTermS n).2 ∧ SoundC Tryz.prog (K_eqTerm n).1 (K_eqTerm n).2 := by
  induction n with
  | zero => exact ⟨sound_of hm CtxOK.nil (fun _ => []) (by kernel_rfl) fun x h => absurd h.2 (Nat.not_lt_zero _), sound_of hm CtxOK.nil (fun _ => []) (by kernel_rfl) fun x h => absurd h.2 (Nat.not_lt_zero _)⟩
  | succ n ih =>
    have h1 : SoundC Tryz.prog (K_eqTermS (n + 1)).1 (K_eqTermS (n + 1)).2 := sound_of hm (CtxOK.nil.and (K := K_eqTerm n) ih.2) (fun (l, m) => A_eqTermS l m) (by kernel_rfl) fun (l, m) hl => cast (vc_eqTermS n l m) (by
      obtain ⟨hl, hn⟩ : SmTs l ∧ manyL l < n + 1 := hl
      simp [-List.getD_eq_getElem?_getD, -List.mem_cons, -Bool.forall_bool, -Bool.exists_bool, and_assoc, peta, tl_inj, ex_1, ex_2, ex_3, ex_4, ex_5, ex_6, ex_7, ex_8, ex_9, ey_2, ey_3, ey_4, ey_5, ey_6, ey_7, ey_8, ey_9]
      have hlen := hl.len
      simp only [tparts']
      refine ⟨fun h e => h (by rw [e]), fun h => ⟨⟨0, by simp; omega⟩, fun k hk hlm he => ⟨fun hlt => ⟨hlt, by omega, hl.mem (getD_mem dT hlt), by have := manyL_kids (getD_mem dT hlt); omega, (eq_step dT hlt hlm he).1, fun h => ⟨k + 1, hlt, hlm, (eq_step dT hlt hlm he).2 h, by omega, wrap_small (by omega) (by omega)⟩⟩, fun hge => ?_⟩⟩⟩
      rw [drop_end (by omega), drop_end (l := m) (by omega)] at he
      exact he.2 rfl)
    have h2 : SoundC Tryz.prog (K_eqTerm (n + 1)).1 (K_eqTerm (n + 1)).2 := sound_of hm (CtxOK.nil.and (K := K_eqTermS (n + 1)) h1) (fun _ => []) (by kernel_rfl) fun (x : TP × TP) hl => cast (vc_eqTerm (n + 1) x.1.1 x.1.2 x.2.1 x.2.2) (by
      obtain ⟨⟨a, b⟩, c, d⟩ := x
      obtain ⟨hl, hn⟩ : SmT (.mk a b) ∧ manyL b < n + 1 := hl
      simp [-List.getD_eq_getElem?_getD, -List.mem_cons, -Bool.forall_bool, -Bool.exists_bool, and_assoc, peta, tl_inj, ex_1, ex_2, ex_3, ex_4, ex_5, ex_6, ex_7, ex_8, ex_9, ey_2, ey_3, ey_4, ey_5, ey_6, ey_7, ey_8, ey_9]
      exact ⟨fun h e => absurd e h, fun _ => ⟨hl.kids, hn, fun h _ => h, fun h => ⟨‹_›, h⟩⟩⟩)
    exact ⟨h1, h2⟩
theorem k_eqT : SoundC Tryz.prog K_eqT.1 K_eqT.2 := SoundC.fam (fun x => manyL x.1.2) fun n => (k_eqTerms n).2
theorem k_eqTs : SoundC Tryz.prog K_eqTs.1 K_eqTs.2 := SoundC.fam (fun x => manyL x.1) fun n => (k_eqTerms n).1
end Cg

/-
  The codes' contracts: the sorts of terms. No condition.
-/
set_option linter.unusedVariables false
set_option linter.unusedSimpArgs false
set_option maxRecDepth 100000
set_option maxHeartbeats 1000000
namespace Pl
open Go Cg
theorem sumN_congr {α : Type} {f g : α → Nat} : ∀ {l : List α}, (∀ x ∈ l, f x = g x) → sumN f l = sumN g l
  | [], _ => rfl
  | x :: r, h => by simp only [sumN]; rw [h x List.mem_cons_self, sumN_congr fun y hy => h y (List.mem_cons_of_mem _ hy)]
theorem sumN_le {α : Type} {f : α → Nat} {b : Nat} : ∀ {l : List α}, (∀ x ∈ l, f x ≤ b) → sumN f l ≤ l.length * b
  | [], _ => Nat.zero_le _
  | x :: r, h => by
    simp only [sumN, List.length_cons, Nat.add_mul, Nat.one_mul]
    have := h x List.mem_cons_self
    have := sumN_le (l := r) fun y hy => h y (List.mem_cons_of_mem _ hy)
    omega
theorem tsz_shape : ∀ (n : Nat) (t : Tm), (shape n t = true → tsz n t = manyD n t) ∧ (shape n t = false → 13 ≤ tsz n t)
  | 0, t => ⟨fun h => (by simp [shape] at h), fun _ => Nat.le_refl _⟩
  | n + 1, t => by
    simp only [shape, tsz, manyD]
    cases h1 : nameOk t.val
    · simp
    · by_cases h2 : t.kids.length ≤ 2
      · have h2' : ¬ t.kids.length > 2 := by omega
        rw [decide_eq_true h2, decide_eq_false h2']
        simp only [Bool.not_true, Bool.or_self, Bool.false_eq_true, if_false, Bool.and_self, Bool.true_and]
        refine ⟨fun h => ?_, fun h => ?_⟩
        · rw [sumN_congr fun x hx => (tsz_shape n x).1 (List.all_eq_true.1 h x hx)]
        · obtain ⟨x, hx, h3⟩ := List.all_eq_false.1 h
          have h4 := (tsz_shape n x).2 (by simpa using h3)
          have h5 := sumN_mem (tsz n) hx
          omega
      · have h2' : t.kids.length > 2 := by omega
        rw [decide_eq_false h2, decide_eq_true h2']
        simp
theorem isTerm_right (t : Tm) : isTerm t = right t := by
  obtain ⟨h1, h2⟩ := tsz_shape 4 t
  unfold isTerm right
  cases h : shape 4 t
  · rw [Bool.false_and]; exact decide_eq_false (by have := h2 h; omega)
  · rw [h1 h, Bool.true_and]
theorem tsz_le : ∀ (n : Nat) (t : Tm), tsz n t + 1 ≤ 14 * 2 ^ n
  | 0, t => by simp [tsz]
  | n + 1, t => by
    have h0 : 1 ≤ 2 ^ n := Nat.one_le_two_pow
    simp only [tsz, Nat.pow_succ]
    split
    · omega
    · rename_i h
      have h2 : t.kids.length ≤ 2 := by
        simp only [Bool.or_eq_true, decide_eq_true_eq] at h; omega
      have h3 : sumN (tsz n) t.kids ≤ t.kids.length * (14 * 2 ^ n - 1) := sumN_le fun x _ => by have := tsz_le n x; omega
      have h4 : t.kids.length * (14 * 2 ^ n - 1) ≤ 2 * (14 * 2 ^ n - 1) := Nat.mul_le_mul_right _ h2
      omega
theorem manyD_le : ∀ (n : Nat) (t : Tm), manyD n t ≤ 1 + costT t
  | 0, t => by simp [manyD]
  | n + 1, t => by
    simp only [manyD]
    rw [costT_eq]
    have : ∀ l : List Tm, sumN (manyD n) l ≤ l.length + costTs l := by
      intro l
      induction l with
      | nil => simp [sumN]
      | cons x r ih => simp only [sumN, costTs, List.length_cons]; have := manyD_le n x; omega
    have := this t.kids
    omega
end Pl
namespace Cg
open Go Go.Proofs Pl

theorem tm_size {a : ByteArray} {b : List Tm} (h : SmT (.mk a b)) : a.size ≤ 1048576 ∧ b.length ≤ 1048576 := by
  have h1 : costT (.mk a b) ≤ 1048576 := h
  rw [costT_eq] at h1
  simp only [Tree.val, Tree.kids] at h1
  omega

theorem k_l4Shape (n : Nat) : SoundC Tryz.prog (K_l4Shape n).1 (K_l4Shape n).2 := by
  induction n with
  | zero => exact sound_of hm (CtxOK.nil.and k_sNameOk) (fun _ => []) (by kernel_rfl) fun (x : TP) hl => (by
      rw [← vc_l4Shape0 x]
      simp [-List.getD_eq_getElem?_getD, -List.mem_cons, -Bool.forall_bool, -Bool.exists_bool, and_assoc, peta, tl_inj, ex_1, ex_2, ex_3, ex_4, ex_5, ex_6, ex_7, ex_8, ex_9, ey_2, ey_3, ey_4, ey_5, ey_6, ey_7, ey_8, ey_9]
      rfl)
  | succ n ih => exact sound_of hm ((CtxOK.nil.and (K := K_l4Shape n) ih).and k_sNameOk) (fun x => A_l4Shape n x.1 x.2) (by kernel_rfl) fun (x : TP) hl => (by
      have h1 : SmT (.mk x.1 x.2) := hl.1
      have hn : n + 1 ≤ 10 := hl.2
      clear hl
      rw [← vc_l4Shape n x]
      obtain ⟨a, b⟩ := x
      dsimp only at *
      simp [-List.getD_eq_getElem?_getD, -List.mem_cons, -Bool.forall_bool, -Bool.exists_bool, and_assoc, peta, tl_inj, ex_1, ex_2, ex_3, ex_4, ex_5, ex_6, ex_7, ex_8, ex_9, ey_2, ey_3, ey_4, ey_5, ey_6, ey_7, ey_8, ey_9]
      obtain ⟨t1, t2⟩ := tm_size h1
      have k1 := (SmT.kids h1).len
      have e : Pl.shape (n + 1) (Tree.mk a b) = (nameOk a && decide (b.length ≤ 2) && b.all (Pl.shape n)) := rfl
      refine ⟨t1, fun h => by rw [e, h]; rfl, fun h => ⟨fun h2 => by rw [e, decide_eq_false (by omega)]; simp, fun h2 => ⟨⟨0, by simp, by rw [e, h, decide_eq_true (by omega)]; simp, rfl⟩, fun k hk he => ⟨fun hlt => ?_, fun hge => by rw [he, drop_end (by omega)]; rfl⟩⟩⟩⟩
      rw [drop_get dT hlt, List.all_cons] at he
      exact ⟨hlt, wrap_small (by omega) (by omega), (SmT.kids h1).mem (getD_mem dT hlt), by omega, fun h3 => by rw [he, h3]; rfl, fun h3 => ⟨k + 1, hlt, by rw [he, h3, Bool.true_and], by omega, wrap_small (by omega) (by omega)⟩⟩)

theorem k_l4Many (n : Nat) : SoundC Tryz.prog (K_l4Many n).1 (K_l4Many n).2 := by
  induction n with
  | zero => exact sound_of hm CtxOK.nil (fun x => A_l4Many0 x.1 x.2) (by kernel_rfl) fun (x : TP) hl => (by
      clear hl
      rw [← vc_l4Many0 x]
      obtain ⟨a, b⟩ := x
      dsimp only at *
      simp [-List.getD_eq_getElem?_getD, -List.mem_cons, -Bool.forall_bool, -Bool.exists_bool, and_assoc, peta, tl_inj, ex_1, ex_2, ex_3, ex_4, ex_5, ex_6, ex_7, ex_8, ex_9, ey_2, ey_3, ey_4, ey_5, ey_6, ey_7, ey_8, ey_9]
      simp [manyD])
  | succ n ih => exact sound_of hm (CtxOK.nil.and (K := K_l4Many n) ih) (fun x => A_l4Many n x.1 x.2) (by kernel_rfl) fun (x : TP) hl => (by
      have h1 : SmT (.mk x.1 x.2) := hl.1
      have hn : n + 1 ≤ 10 := hl.2
      clear hl
      rw [← vc_l4Many n x]
      obtain ⟨a, b⟩ := x
      dsimp only at *
      simp [-List.getD_eq_getElem?_getD, -List.mem_cons, -Bool.forall_bool, -Bool.exists_bool, and_assoc, peta, tl_inj, ex_1, ex_2, ex_3, ex_4, ex_5, ex_6, ex_7, ex_8, ex_9, ey_2, ey_3, ey_4, ey_5, ey_6, ey_7, ey_8, ey_9]
      have k1 := (SmT.kids h1).len
      have bnd : ∀ k, 1 + sumN (manyD n) (b.take k) ≤ 1 + costT (.mk a b) := fun k => by
        have := sumN_take_le (manyD n) b k
        have h2 := manyD_le (n + 1) (.mk a b)
        simp only [manyD, Tree.kids] at h2
        omega
      have h1' : costT (.mk a b) ≤ 1048576 := h1
      refine ⟨⟨0, by simp, by simp [sumN], rfl⟩, fun k hk => ⟨fun hlt => ?_, fun hge => ?_⟩⟩
      · have ht := sumN_take (manyD n) dT hlt
        have := bnd (k + 1)
        exact ⟨hlt, wrap_small (by omega) (by omega), (SmT.kids h1).mem (getD_mem dT hlt), by omega, k + 1, hlt, by omega, by rw [wrap_small (by omega) (by omega), ht]; omega, wrap_small (by omega) (by omega)⟩
      · rw [List.take_of_length_le hge]; simp [manyD])

theorem k_l4Right : SoundC Tryz.prog K_l4Right.1 K_l4Right.2 := sound_of hm ((CtxOK.nil.and (K := K_l4Many 4) (k_l4Many 4)).and (K := K_l4Shape 4) (k_l4Shape 4)) (fun _ => []) (by kernel_rfl) fun (a, b) hl => cast (vc_l4Right a b) (by
  replace hl : SmT (.mk a b) := hl
  simp [-List.getD_eq_getElem?_getD, -List.mem_cons, -Bool.forall_bool, -Bool.exists_bool, and_assoc, peta, tl_inj, ex_1, ex_2, ex_3, ex_4, ex_5, ex_6, ex_7, ex_8, ex_9, ey_2, ey_3, ey_4, ey_5, ey_6, ey_7, ey_8, ey_9]
  exact ⟨hl, fun h => ⟨hl, by unfold right; rw [h, Bool.true_and]; congr 1; simp only [eq_iff_iff]; omega⟩, fun h => by unfold right; rw [h]; rfl⟩)
theorem k_termSize (n : Nat) : SoundC Tryz.prog (K_termSize n).1 (K_termSize n).2 := by
  induction n with
  | zero => exact sound_of hm (CtxOK.nil.and k_iNameOk) (fun _ => []) (by kernel_rfl) fun (x : TP) hl => (by
      have h1 : SmT (.mk x.1 x.2) := hl.1
      clear hl
      rw [← vc_termSize0 x]
      obtain ⟨a, b⟩ := x
      dsimp only at *
      simp [-List.getD_eq_getElem?_getD, -List.mem_cons, -Bool.forall_bool, -Bool.exists_bool, and_assoc, peta, tl_inj, ex_1, ex_2, ex_3, ex_4, ex_5, ex_6, ex_7, ex_8, ex_9, ey_2, ey_3, ey_4, ey_5, ey_6, ey_7, ey_8, ey_9]
      exact ⟨(tm_size h1).1, fun _ => rfl, fun _ => ⟨fun _ => rfl, fun _ => rfl⟩⟩)
  | succ n ih => exact sound_of hm ((CtxOK.nil.and (K := K_termSize n) ih).and k_iNameOk) (fun x => A_termSize n x.1 x.2) (by kernel_rfl) fun (x : TP) hl => (by
      have h1 : SmT (.mk x.1 x.2) := hl.1
      have hn : n + 1 ≤ 4 := hl.2
      clear hl
      rw [← vc_termSize n x]
      obtain ⟨a, b⟩ := x
      dsimp only at *
      simp [-List.getD_eq_getElem?_getD, -List.mem_cons, -Bool.forall_bool, -Bool.exists_bool, and_assoc, peta, tl_inj, ex_1, ex_2, ex_3, ex_4, ex_5, ex_6, ex_7, ex_8, ex_9, ey_2, ey_3, ey_4, ey_5, ey_6, ey_7, ey_8, ey_9]
      obtain ⟨t1, t2⟩ := tm_size h1
      have et : tsz (n + 1) (.mk a b) = if (!nameOk a || decide (b.length > 2)) = true then 13 else 1 + sumN (tsz n) b := rfl
      have bad : (!nameOk a || decide (b.length > 2)) = true → (13 : Int) = tsz (n + 1) (.mk a b) := fun h => by
        rw [et, if_pos h]; rfl
      have good : nameOk a = true → b.length ≤ 2 → tsz (n + 1) (.mk a b) = 1 + sumN (tsz n) b := fun h h2 => by
        rw [et, if_neg]; simp [h]; omega
      refine ⟨t1, fun h => bad (by rw [h]; rfl), fun h => ⟨fun h2 => bad (by rw [decide_eq_true (by omega)]; simp), fun h2 => ⟨fun h3 => by omega, fun _ => ⟨⟨0, by simp, by omega, by simp [sumN], rfl⟩, fun k hk h2' => ⟨fun hlt => ?_, fun hge => ?_⟩⟩⟩⟩⟩
      · have ht := sumN_take (tsz n) dT hlt
        have hle := sumN_take_le (tsz n) b (k + 1)
        have h4 : sumN (tsz n) b ≤ b.length * 223 := sumN_le fun x _ => by
          have := tsz_le n x
          have : 2 ^ n ≤ 2 ^ 4 := Nat.pow_le_pow_right (by omega) (by omega)
          omega
        exact ⟨hlt, by rw [wrap_small (by omega) (by omega)]; omega, (SmT.kids h1).mem (getD_mem dT hlt), by omega, k + 1, hlt, h2', by omega, by rw [wrap_small (by omega) (by omega), ht]; omega, wrap_small (by omega) (by omega)⟩
      · rw [List.take_of_length_le hge, good h (by omega)]; omega)
theorem k_isTerm : SoundC Tryz.prog K_isTerm.1 K_isTerm.2 := sound_of hm (CtxOK.nil.and (K := K_termSize 4) (k_termSize 4)) (fun _ => []) (by kernel_rfl) fun (a, b) hl => cast (vc_isTerm a b) (by
  replace hl : SmT (.mk a b) := hl
  simp [-List.getD_eq_getElem?_getD, -List.mem_cons, -Bool.forall_bool, -Bool.exists_bool, and_assoc, peta, tl_inj, ex_1, ex_2, ex_3, ex_4, ex_5, ex_6, ex_7, ex_8, ex_9, ey_2, ey_3, ey_4, ey_5, ey_6, ey_7, ey_8, ey_9]
  refine ⟨hl, ?_⟩
  rw [← isTerm_right]
  unfold isTerm
  congr 1; simp only [eq_iff_iff]; omega)
end Cg

/-
  The codes' contracts: models: sizes, copies, equality. No condition.
-/
set_option linter.unusedVariables false
set_option linter.unusedSimpArgs false
set_option maxRecDepth 100000
set_option maxHeartbeats 1000000
namespace Cg
open Go Go.Proofs Pl
theorem SmM.mem {m : Mdl} (h : SmM m) {x : Rw} (hx : x ∈ m) : x.1.size ≤ 1048576 ∧ x.2.1.length ≤ 1048576 := by
  have h1 : m.length + sumN costR m ≤ 1048576 := h
  have h2 := sumN_mem costR hx
  have h3 : costR x = x.1.size + x.2.1.length := rfl
  omega
theorem SmM.len {m : Mdl} (h : SmM m) : m.length ≤ 1048576 := by
  have h1 : m.length + sumN costR m ≤ 1048576 := h
  omega

end Cg

/-
  The codes' contracts: valid models. No condition.
-/
set_option linter.unusedVariables false
set_option linter.unusedSimpArgs false
set_option maxRecDepth 100000
set_option maxHeartbeats 1000000
namespace Pl
open Go Cg
end Pl
namespace Cg
open Go Go.Proofs Pl

end Cg

/-
  The codes' contracts: the values of terms. No condition.
-/
set_option linter.unusedVariables false
set_option linter.unusedSimpArgs false
set_option maxRecDepth 100000
set_option maxHeartbeats 1000000
namespace Pl
open Go Cg
theorem take_getD {α : Type} (d : α) {l : List α} {i : Nat} (h : i < l.length) : l.take (i + 1) = l.take i ++ [l.getD i d] := by
  rw [List.take_succ_eq_append_getElem h]; simp [h]
end Pl
namespace Cg
open Go Go.Proofs Pl

end Cg

/-
  The library functions' contracts at this program, laid by the kit's own programs (lay-shelf, lay-plain). No condition.
-/
namespace Go.Proofs
open Go.Shelf
def Tryz.lays169_ren : Go.Shelf.Ren := ⟨fun | 169 => 79 | n => n, fun | 70 => 88 | 9 => 9 | 0 => 0 | 72 => 90 | 37 => 73 | 127 => 107 | 3 => 3 | 5 => 5 | n => n, fun | n => n⟩
def Tryz.lays156_ren : Go.Shelf.Ren := ⟨fun | 156 => 61 | 165 => 77 | 166 => 78 | 169 => 79 | 240 => 92 | 241 => 93 | 276 => 103 | 277 => 104 | n => n, fun | 31 => 41 | 9 => 9 | 3 => 3 | 4 => 4 | 0 => 0 | 20 => 20 | 72 => 90 | 76 => 67 | 70 => 88 | 37 => 73 | 75 => 66 | 127 => 107 | 164 => 120 | 5 => 5 | 80 => 92 | n => n, fun | n => n⟩
theorem Tryz.lays156 : Go.Proofs.Lays.n156 Tryz.prog Tryz.lays156_ren := {
  mixed := by kernel_rfl
  f156 := Tryz.func61.trans (congrArg some (by kernel_rfl))
  f165 := Tryz.func77.trans (congrArg some (by kernel_rfl))
  f166 := Tryz.func78.trans (congrArg some (by kernel_rfl))
  f169 := Tryz.func79.trans (congrArg some (by kernel_rfl))
  f240 := Tryz.func92.trans (congrArg some (by kernel_rfl))
  f241 := Tryz.func93.trans (congrArg some (by kernel_rfl))
  f276 := Tryz.func103.trans (congrArg some (by kernel_rfl))
  f277 := Tryz.func104.trans (congrArg some (by kernel_rfl))
  t0 := Tryz.underlying0
  a0 := Tryz.isAgg0
  z0 := Tryz.sizeOf0
  v0 := Tryz.zeroValue0
  t3 := Tryz.underlying3
  a3 := Tryz.isAgg3
  z3 := Tryz.sizeOf3
  v3 := Tryz.zeroValue3
  t4 := Tryz.underlying4
  a4 := Tryz.isAgg4
  z4 := Tryz.sizeOf4
  v4 := Tryz.zeroValue4
  t9 := Tryz.underlying9
  a9 := Tryz.isAgg9
  z9 := Tryz.sizeOf9
  v9 := Tryz.zeroValue9
  t20 := Tryz.underlying20
  a20 := Tryz.isAgg20
  z20 := Tryz.sizeOf20
  v20 := Tryz.zeroValue20
  t31 := Tryz.underlying41
  a31 := Tryz.isAgg41
  z31 := Tryz.sizeOf41
  v31 := Tryz.zeroValue41
  t37 := Tryz.underlying73
  a37 := Tryz.isAgg73
  z37 := Tryz.sizeOf73
  v37 := Tryz.zeroValue73
  t70 := Tryz.underlying88
  a70 := Tryz.isAgg88
  z70 := Tryz.sizeOf88
  v70 := Tryz.zeroValue88
  t72 := Tryz.underlying90
  a72 := Tryz.isAgg90
  z72 := Tryz.sizeOf90
  v72 := Tryz.zeroValue90
  t75 := Tryz.underlying66
  a75 := Tryz.isAgg66
  z75 := Tryz.sizeOf66
  v75 := Tryz.zeroValue66
  t76 := Tryz.underlying67
  a76 := Tryz.isAgg67
  z76 := Tryz.sizeOf67
  v76 := Tryz.zeroValue67
  t127 := Tryz.underlying107
  a127 := Tryz.isAgg107
  z127 := Tryz.sizeOf107
  v127 := Tryz.zeroValue107
  t164 := Tryz.underlying120
  a164 := Tryz.isAgg120
  z164 := Tryz.sizeOf120
  v164 := Tryz.zeroValue120 }
theorem Tryz.Builder_Extra_156 : Builder.Extra Tryz.prog Tryz.lays156_ren := {
  sizeBuilder := by kernel_rfl
  liesBuilder := by kernel_rfl
  t5 := Tryz.underlying5
  a5 := Tryz.isAgg5
  z5 := Tryz.sizeOf5
  v5 := Tryz.zeroValue5
  infoByte := by kernel_rfl
  cellsByte := by kernel_rfl
  sizeByte := by kernel_rfl
  neB5 := by decide }
open Go.RowKit in
theorem Tryz.strings_Join_none (a : Option Addr) (c : Nat) (sep : ByteArray) (w : World) :
    Calls Tryz.prog 61 #[.slice a 0 c, .string sep] w fun e w' => e = .returned (.string ⟨#[]⟩) ∧ w' = w := Any.strings_Join_none Tryz.lays156 Tryz.Builder_Extra_156 a c sep w
open Go.RowKit in
theorem Tryz.strings_Join (bk o c : Nat) (xs : List ByteArray) (sep : ByteArray) (w : World) (hcells : ∀ (j : Nat) x, xs[j]? = some x → w.cell? ⟨bk, o + j, none⟩ = some (.string x)) (hbk : bk < w.heap.size) (hN : xs.length ≤ 140737488355328) (hcap : xs.length ≤ c) (hlen : (Lib.join (xs.map (·.data.toList)) sep.data.toList).length ≤ 140737488355328) :
    Calls Tryz.prog 61 #[.slice (some ⟨bk, o, none⟩) xs.length c, .string sep] w fun e w' => e = .returned (.string ⟨(Lib.join (xs.map (·.data.toList)) sep.data.toList).toArray⟩) ∧ Below w.heap.size w w' := Any.strings_Join Tryz.lays156 Tryz.Builder_Extra_156 bk o c xs sep w hcells hbk hN hcap hlen
def Tryz.lays103_ren : Go.Shelf.Ren := ⟨fun | 103 => 15 | 210 => 33 | 206 => 51 | n => n, fun | 9 => 9 | 4 => 4 | 24 => 39 | 3 => 3 | n => n, fun | n => n⟩
theorem Tryz.lays103 : Go.Proofs.Lays.n103 Tryz.prog Tryz.lays103_ren := {
  mixed := by kernel_rfl
  f103 := Tryz.func15.trans (congrArg some (by kernel_rfl))
  f206 := Tryz.func51.trans (congrArg some (by kernel_rfl))
  f210 := Tryz.func33.trans (congrArg some (by kernel_rfl))
  t3 := Tryz.underlying3
  a3 := Tryz.isAgg3
  z3 := Tryz.sizeOf3
  v3 := Tryz.zeroValue3
  t4 := Tryz.underlying4
  a4 := Tryz.isAgg4
  z4 := Tryz.sizeOf4
  v4 := Tryz.zeroValue4
  t9 := Tryz.underlying9
  a9 := Tryz.isAgg9
  z9 := Tryz.sizeOf9
  v9 := Tryz.zeroValue9
  t24 := Tryz.underlying39
  a24 := Tryz.isAgg39
  z24 := Tryz.sizeOf39
  v24 := Tryz.zeroValue39 }
open Go.RowKit in
theorem Tryz.strings_CutPrefix (s p : ByteArray) (w : World) :
    Calls Tryz.prog 15 #[.string s, .string p] w fun e w' => e = .returned (.tuple #[.string ⟨(Lib.trimPrefix s.data.toList p.data.toList).toArray⟩, .bool (Lib.hasPrefix s.data.toList p.data.toList)]) ∧ w' = w := Any.strings_CutPrefix Tryz.lays103 s p w
def Tryz.laysM171_ren : Go.Shelf.Ren := ⟨fun | 171 => 48 | 243 => 62 | 246 => 80 | 283 => 94 | 284 => 95 | 285 => 96 | 286 => 97 | 129 => 106 | 317 => 105 | 318 => 107 | 319 => 108 | 320 => 109 | 337 => 110 | 338 => 111 | n => n, fun | 3 => 3 | 9 => 9 | 2 => 2 | 4 => 4 | 171 => 108 | 0 => 0 | 53 => 100 | 37 => 73 | 5 => 5 | 173 => 111 | 212 => 124 | 51 => 113 | 20 => 20 | 213 => 125 | 46 => 96 | 232 => 133 | 233 => 134 | n => n, fun | 17 => 3 | 18 => 6 | 19 => 7 | n => n⟩
theorem Tryz.laysM171 : Go.Proofs.LaysM.n171 Tryz.prog Tryz.laysM171_ren := {
  mixed := by kernel_rfl
  f129 := Tryz.func106.trans (congrArg some (by kernel_rfl))
  f171 := Tryz.func48.trans (congrArg some (by kernel_rfl))
  f243 := Tryz.func62.trans (congrArg some (by kernel_rfl))
  f246 := Tryz.func80.trans (congrArg some (by kernel_rfl))
  f283 := Tryz.func94.trans (congrArg some (by kernel_rfl))
  f284 := Tryz.func95.trans (congrArg some (by kernel_rfl))
  f285 := Tryz.func96.trans (congrArg some (by kernel_rfl))
  f286 := Tryz.func97.trans (congrArg some (by kernel_rfl))
  f317 := Tryz.func105.trans (congrArg some (by kernel_rfl))
  f318 := Tryz.func107.trans (congrArg some (by kernel_rfl))
  f319 := Tryz.func108.trans (congrArg some (by kernel_rfl))
  f320 := Tryz.func109.trans (congrArg some (by kernel_rfl))
  f337 := Tryz.func110.trans (congrArg some (by kernel_rfl))
  f338 := Tryz.func111.trans (congrArg some (by kernel_rfl))
  t0 := Tryz.underlying0
  a0 := Tryz.isAgg0
  z0 := Tryz.sizeOf0
  v0 := Tryz.zeroValue0
  t2 := Tryz.underlying2
  a2 := Tryz.isAgg2
  z2 := Tryz.sizeOf2
  v2 := Tryz.zeroValue2
  t3 := Tryz.underlying3
  a3 := Tryz.isAgg3
  z3 := Tryz.sizeOf3
  v3 := Tryz.zeroValue3
  t4 := Tryz.underlying4
  a4 := Tryz.isAgg4
  z4 := Tryz.sizeOf4
  v4 := Tryz.zeroValue4
  t5 := Tryz.underlying5
  a5 := Tryz.isAgg5
  z5 := Tryz.sizeOf5
  v5 := Tryz.zeroValue5
  t9 := Tryz.underlying9
  a9 := Tryz.isAgg9
  z9 := Tryz.sizeOf9
  v9 := Tryz.zeroValue9
  t20 := Tryz.underlying20
  a20 := Tryz.isAgg20
  z20 := Tryz.sizeOf20
  v20 := Tryz.zeroValue20
  t37 := Tryz.underlying73
  a37 := Tryz.isAgg73
  z37 := Tryz.sizeOf73
  v37 := Tryz.zeroValue73
  t46 := Tryz.underlying96
  a46 := Tryz.isAgg96
  z46 := Tryz.sizeOf96
  v46 := Tryz.zeroValue96
  t51 := Tryz.underlying113
  a51 := Tryz.isAgg113
  z51 := Tryz.sizeOf113
  v51 := Tryz.zeroValue113
  t53 := Tryz.underlying100
  a53 := Tryz.isAgg100
  z53 := Tryz.sizeOf100
  v53 := Tryz.zeroValue100
  t171 := Tryz.underlying108
  a171 := Tryz.isAgg108
  z171 := Tryz.sizeOf108
  v171 := Tryz.zeroValue108
  t173 := Tryz.underlying111
  a173 := Tryz.isAgg111
  z173 := Tryz.sizeOf111
  v173 := Tryz.zeroValue111
  t212 := Tryz.underlying124
  a212 := Tryz.isAgg124
  z212 := Tryz.sizeOf124
  v212 := Tryz.zeroValue124
  t213 := Tryz.underlying125
  a213 := Tryz.isAgg125
  z213 := Tryz.sizeOf125
  t232 := Tryz.underlying133
  a232 := Tryz.isAgg133
  z232 := Tryz.sizeOf133
  v232 := Tryz.zeroValue133
  t233 := Tryz.underlying134
  a233 := Tryz.isAgg134
  z233 := Tryz.sizeOf134
  v233 := Tryz.zeroValue134
  g17 := by kernel_rfl
  g18 := by kernel_rfl
  g19 := by kernel_rfl
  i0 := by kernel_rfl
  i2 := by kernel_rfl
  i3 := by kernel_rfl
  i4 := by kernel_rfl
  i5 := by kernel_rfl
  i9 := by kernel_rfl
  i20 := by kernel_rfl
  i37 := by kernel_rfl
  i46 := by kernel_rfl
  i51 := by kernel_rfl
  i53 := by kernel_rfl
  i171 := by kernel_rfl
  i173 := by kernel_rfl
  i212 := by kernel_rfl
  i232 := by kernel_rfl
  i233 := by kernel_rfl
  m17 := by kernel_rfl
  m18 := by kernel_rfl
  m19 := by kernel_rfl }
open Go.RowKit Go.Sort Go.Lib in
theorem Tryz.strconv_Itoa (n : Int) (h0 : -9223372036854775808 ≤ n) (h1 : n ≤ 9223372036854775807) (w : World) (htab : Lib.TabIs Tryz.prog w "internal/strconv.uint64pow10" .u64 Lib.pow10Tab) :
    Calls Tryz.prog 48 #[.int .i64 n] w fun e w' => e = .returned (.string ⟨(Lib.itoa n).toArray⟩) ∧ ∃ k os, w' = grow (w.drewN k) os := Any.strconv_Itoa Tryz.laysM171 n h0 h1 w htab
def Tryz.laysC172_ren : Go.Shelf.Ren := ⟨fun | 172 => 44 | 244 => 58 | 245 => 59 | 247 => 72 | 279 => 73 | 280 => 74 | 281 => 75 | 282 => 76 | 287 => 89 | 316 => 90 | 171 => 48 | 205 => 91 | 321 => 101 | 322 => 102 | 243 => 62 | 246 => 80 | 283 => 94 | 284 => 95 | 285 => 96 | 286 => 97 | 129 => 106 | 317 => 105 | 318 => 107 | 319 => 108 | 320 => 109 | 337 => 110 | 338 => 111 | n => n, fun | 9 => 9 | 3 => 3 | 75 => 66 | 76 => 67 | 4 => 4 | 5 => 5 | 167 => 82 | 37 => 73 | 0 => 0 | 85 => 83 | 2 => 2 | 168 => 85 | 53 => 100 | 175 => 101 | 46 => 96 | 210 => 105 | 127 => 107 | 145 => 119 | 143 => 117 | 21 => 21 | 171 => 108 | 173 => 111 | 212 => 124 | 51 => 113 | 20 => 20 | 213 => 125 | 232 => 133 | 233 => 134 | 80 => 92 | n => n, fun | 15 => 1 | 16 => 2 | 17 => 3 | 18 => 6 | 19 => 7 | n => n⟩
theorem Tryz.laysC172 : Go.Proofs.LaysC.n172 Tryz.prog Tryz.laysC172_ren := {
  mixed := by kernel_rfl
  f129 := Tryz.func106.trans (congrArg some (by kernel_rfl))
  f171 := Tryz.func48.trans (congrArg some (by kernel_rfl))
  f172 := Tryz.func44.trans (congrArg some (by kernel_rfl))
  f205 := Tryz.func91.trans (congrArg some (by kernel_rfl))
  f243 := Tryz.func62.trans (congrArg some (by kernel_rfl))
  f244 := Tryz.func58.trans (congrArg some (by kernel_rfl))
  f245 := Tryz.func59.trans (congrArg some (by kernel_rfl))
  f246 := Tryz.func80.trans (congrArg some (by kernel_rfl))
  f247 := Tryz.func72.trans (congrArg some (by kernel_rfl))
  f279 := Tryz.func73.trans (congrArg some (by kernel_rfl))
  f280 := Tryz.func74.trans (congrArg some (by kernel_rfl))
  f281 := Tryz.func75.trans (congrArg some (by kernel_rfl))
  f282 := Tryz.func76.trans (congrArg some (by kernel_rfl))
  f283 := Tryz.func94.trans (congrArg some (by kernel_rfl))
  f284 := Tryz.func95.trans (congrArg some (by kernel_rfl))
  f285 := Tryz.func96.trans (congrArg some (by kernel_rfl))
  f286 := Tryz.func97.trans (congrArg some (by kernel_rfl))
  f287 := Tryz.func89.trans (congrArg some (by kernel_rfl))
  f316 := Tryz.func90.trans (congrArg some (by kernel_rfl))
  f317 := Tryz.func105.trans (congrArg some (by kernel_rfl))
  f318 := Tryz.func107.trans (congrArg some (by kernel_rfl))
  f319 := Tryz.func108.trans (congrArg some (by kernel_rfl))
  f320 := Tryz.func109.trans (congrArg some (by kernel_rfl))
  f321 := Tryz.func101.trans (congrArg some (by kernel_rfl))
  f322 := Tryz.func102.trans (congrArg some (by kernel_rfl))
  f337 := Tryz.func110.trans (congrArg some (by kernel_rfl))
  f338 := Tryz.func111.trans (congrArg some (by kernel_rfl))
  t0 := Tryz.underlying0
  a0 := Tryz.isAgg0
  z0 := Tryz.sizeOf0
  v0 := Tryz.zeroValue0
  t2 := Tryz.underlying2
  a2 := Tryz.isAgg2
  z2 := Tryz.sizeOf2
  v2 := Tryz.zeroValue2
  t3 := Tryz.underlying3
  a3 := Tryz.isAgg3
  z3 := Tryz.sizeOf3
  v3 := Tryz.zeroValue3
  t4 := Tryz.underlying4
  a4 := Tryz.isAgg4
  z4 := Tryz.sizeOf4
  v4 := Tryz.zeroValue4
  t5 := Tryz.underlying5
  a5 := Tryz.isAgg5
  z5 := Tryz.sizeOf5
  v5 := Tryz.zeroValue5
  t9 := Tryz.underlying9
  a9 := Tryz.isAgg9
  z9 := Tryz.sizeOf9
  v9 := Tryz.zeroValue9
  t20 := Tryz.underlying20
  a20 := Tryz.isAgg20
  z20 := Tryz.sizeOf20
  v20 := Tryz.zeroValue20
  t21 := Tryz.underlying21
  a21 := Tryz.isAgg21
  z21 := Tryz.sizeOf21
  v21 := Tryz.zeroValue21
  t37 := Tryz.underlying73
  a37 := Tryz.isAgg73
  z37 := Tryz.sizeOf73
  v37 := Tryz.zeroValue73
  t46 := Tryz.underlying96
  a46 := Tryz.isAgg96
  z46 := Tryz.sizeOf96
  v46 := Tryz.zeroValue96
  t51 := Tryz.underlying113
  a51 := Tryz.isAgg113
  z51 := Tryz.sizeOf113
  v51 := Tryz.zeroValue113
  t53 := Tryz.underlying100
  a53 := Tryz.isAgg100
  z53 := Tryz.sizeOf100
  v53 := Tryz.zeroValue100
  t75 := Tryz.underlying66
  a75 := Tryz.isAgg66
  z75 := Tryz.sizeOf66
  v75 := Tryz.zeroValue66
  t76 := Tryz.underlying67
  a76 := Tryz.isAgg67
  z76 := Tryz.sizeOf67
  v76 := Tryz.zeroValue67
  t85 := Tryz.underlying83
  a85 := Tryz.isAgg83
  z85 := Tryz.sizeOf83
  v85 := Tryz.zeroValue83
  t127 := Tryz.underlying107
  a127 := Tryz.isAgg107
  z127 := Tryz.sizeOf107
  v127 := Tryz.zeroValue107
  t143 := Tryz.underlying117
  a143 := Tryz.isAgg117
  z143 := Tryz.sizeOf117
  v143 := Tryz.zeroValue117
  t145 := Tryz.underlying119
  a145 := Tryz.isAgg119
  z145 := Tryz.sizeOf119
  v145 := Tryz.zeroValue119
  t167 := Tryz.underlying82
  a167 := Tryz.isAgg82
  z167 := Tryz.sizeOf82
  v167 := Tryz.zeroValue82
  t168 := Tryz.underlying85
  a168 := Tryz.isAgg85
  z168 := Tryz.sizeOf85
  v168 := Tryz.zeroValue85
  t171 := Tryz.underlying108
  a171 := Tryz.isAgg108
  z171 := Tryz.sizeOf108
  v171 := Tryz.zeroValue108
  t173 := Tryz.underlying111
  a173 := Tryz.isAgg111
  z173 := Tryz.sizeOf111
  v173 := Tryz.zeroValue111
  t175 := Tryz.underlying101
  a175 := Tryz.isAgg101
  z175 := Tryz.sizeOf101
  v175 := Tryz.zeroValue101
  t210 := Tryz.underlying105
  a210 := Tryz.isAgg105
  z210 := Tryz.sizeOf105
  v210 := Tryz.zeroValue105
  t212 := Tryz.underlying124
  a212 := Tryz.isAgg124
  z212 := Tryz.sizeOf124
  v212 := Tryz.zeroValue124
  t213 := Tryz.underlying125
  a213 := Tryz.isAgg125
  z213 := Tryz.sizeOf125
  t232 := Tryz.underlying133
  a232 := Tryz.isAgg133
  z232 := Tryz.sizeOf133
  v232 := Tryz.zeroValue133
  t233 := Tryz.underlying134
  a233 := Tryz.isAgg134
  z233 := Tryz.sizeOf134
  v233 := Tryz.zeroValue134
  g15 := by kernel_rfl
  g16 := by kernel_rfl
  g17 := by kernel_rfl
  g18 := by kernel_rfl
  g19 := by kernel_rfl
  t80 := Tryz.underlying92
  a80 := Tryz.isAgg92
  z80 := Tryz.sizeOf92
  v80 := Tryz.zeroValue92
  i0 := by kernel_rfl
  i2 := by kernel_rfl
  i3 := by kernel_rfl
  i4 := by kernel_rfl
  i5 := by kernel_rfl
  i9 := by kernel_rfl
  i20 := by kernel_rfl
  i21 := by kernel_rfl
  i37 := by kernel_rfl
  i46 := by kernel_rfl
  i51 := by kernel_rfl
  i53 := by kernel_rfl
  i75 := by kernel_rfl
  i76 := by kernel_rfl
  i80 := by kernel_rfl
  i85 := by kernel_rfl
  i127 := by kernel_rfl
  i143 := by kernel_rfl
  i145 := by kernel_rfl
  i167 := by kernel_rfl
  i168 := by kernel_rfl
  i171 := by kernel_rfl
  i173 := by kernel_rfl
  i175 := by kernel_rfl
  i210 := by kernel_rfl
  i212 := by kernel_rfl
  i232 := by kernel_rfl
  i233 := by kernel_rfl
  m15 := by kernel_rfl
  m16 := by kernel_rfl
  m17 := by kernel_rfl
  m18 := by kernel_rfl
  m19 := by kernel_rfl
  c0 := by kernel_rfl
  c2 := by kernel_rfl
  c3 := by kernel_rfl
  c4 := by kernel_rfl
  c5 := by kernel_rfl
  c9 := by kernel_rfl
  c20 := by kernel_rfl
  c21 := by kernel_rfl
  c37 := by kernel_rfl
  c46 := by kernel_rfl
  c51 := by kernel_rfl
  c53 := by kernel_rfl
  c75 := by kernel_rfl
  c76 := by kernel_rfl
  c80 := by kernel_rfl
  c85 := by kernel_rfl
  c127 := by kernel_rfl
  c143 := by kernel_rfl
  c145 := by kernel_rfl
  c167 := by kernel_rfl
  c168 := by kernel_rfl
  c171 := by kernel_rfl
  c173 := by kernel_rfl
  c175 := by kernel_rfl
  c210 := by kernel_rfl
  c212 := by kernel_rfl
  c213 := by kernel_rfl
  c232 := by kernel_rfl
  c233 := by kernel_rfl }
open Go.RowKit in
theorem Tryz.strconv_Atoi_ok (s : ByteArray) (hmax : s.size ≤ 9223372036854775806) (v : Int) (h : Lib.atoiAll s.data.toList = .ok v) (w : World) :
    Calls Tryz.prog 44 #[.string s] w fun e w' => e = .returned (.tuple #[.int .i64 v, .nilIface]) ∧ (w' = w ∨ ∃ t, w' = Lib.bytesWorld w 5 t) := Any.strconv_Atoi_ok Tryz.laysC172 s hmax v h w
open Go.RowKit in
theorem Tryz.strconv_Atoi_syntax (s : ByteArray) (hlim : s.size ≤ 281474976710656) (h1 : ∀ v, Lib.atoiAll s.data.toList ≠ .ok v) (h2 : Lib.atoiAll s.data.toList ≠ .range) (ev : Value) (w : World) (hv : w.cell? ⟨1, 0, none⟩ = some ev) (hev : ev = .nilIface ∨ ∃ te pe, ev = .iface te pe) :
    Calls Tryz.prog 44 #[.string s] w fun e w' => ∃ N, e = .returned (.tuple #[.int .i64 (0), .iface 85 (.pointer (some ⟨N, 0, none⟩))]) ∧ w.heap.size ≤ N ∧ w'.heap[N]? = some (.cells #[.string ⟨#[65, 116, 111, 105]⟩, .string s, ev] 105 (0, 0)) ∧ Below w.heap.size w w' := by
  cases q : Lib.atoiAll s.data.toList with
  | ok v => exact absurd q (h1 v)
  | range => exact absurd q h2
  | _ => exact Any.strconv_Atoi_syntax Tryz.laysC172 s hlim q ev w hv hev
open Go.RowKit in
theorem Tryz.strconv_Atoi_range (s : ByteArray) (hlim : s.size ≤ 281474976710656) (h : Lib.atoiAll s.data.toList = .range) (ev : Value) (w : World) (hv : w.cell? ⟨2, 0, none⟩ = some ev) (hev : ev = .nilIface ∨ ∃ te pe, ev = .iface te pe) :
    Calls Tryz.prog 44 #[.string s] w fun e w' => ∃ N, e = .returned (.tuple #[.int .i64 (Lib.atoiSat s.data.toList), .iface 85 (.pointer (some ⟨N, 0, none⟩))]) ∧ w.heap.size ≤ N ∧ w'.heap[N]? = some (.cells #[.string ⟨#[65, 116, 111, 105]⟩, .string s, ev] 105 (0, 0)) ∧ Below w.heap.size w w' := Any.strconv_Atoi_range Tryz.laysC172 s hlim h ev w hv hev
def Tryz.lays145_ren : Go.Shelf.Ren := ⟨fun | 145 => 40 | 220 => 55 | 219 => 66 | 217 => 82 | 225 => 83 | 224 => 84 | 267 => 85 | 266 => 98 | 314 => 99 | n => n, fun | 9 => 9 | 4 => 4 | 59 => 61 | 3 => 3 | 5 => 5 | 46 => 96 | 146 => 114 | 51 => 113 | n => n, fun | 1 => 0 | n => n⟩
theorem Tryz.lays145 : Go.Proofs.Lays.n145 Tryz.prog Tryz.lays145_ren := {
  mixed := by kernel_rfl
  f145 := Tryz.func40.trans (congrArg some (by kernel_rfl))
  f217 := Tryz.func82.trans (congrArg some (by kernel_rfl))
  f219 := Tryz.func66.trans (congrArg some (by kernel_rfl))
  f220 := Tryz.func55.trans (congrArg some (by kernel_rfl))
  f224 := Tryz.func84.trans (congrArg some (by kernel_rfl))
  f225 := Tryz.func83.trans (congrArg some (by kernel_rfl))
  f266 := Tryz.func98.trans (congrArg some (by kernel_rfl))
  f267 := Tryz.func85.trans (congrArg some (by kernel_rfl))
  f314 := Tryz.func99.trans (congrArg some (by kernel_rfl))
  t3 := Tryz.underlying3
  a3 := Tryz.isAgg3
  z3 := Tryz.sizeOf3
  v3 := Tryz.zeroValue3
  t4 := Tryz.underlying4
  a4 := Tryz.isAgg4
  z4 := Tryz.sizeOf4
  v4 := Tryz.zeroValue4
  t5 := Tryz.underlying5
  a5 := Tryz.isAgg5
  z5 := Tryz.sizeOf5
  v5 := Tryz.zeroValue5
  t9 := Tryz.underlying9
  a9 := Tryz.isAgg9
  z9 := Tryz.sizeOf9
  v9 := Tryz.zeroValue9
  t46 := Tryz.underlying96
  a46 := Tryz.isAgg96
  z46 := Tryz.sizeOf96
  v46 := Tryz.zeroValue96
  t51 := Tryz.underlying113
  a51 := Tryz.isAgg113
  z51 := Tryz.sizeOf113
  v51 := Tryz.zeroValue113
  t59 := Tryz.underlying61
  a59 := Tryz.isAgg61
  z59 := Tryz.sizeOf61
  v59 := Tryz.zeroValue61
  t146 := Tryz.underlying114
  a146 := Tryz.isAgg114
  z146 := Tryz.sizeOf114
  v146 := Tryz.zeroValue114
  g1 := by kernel_rfl }
open Go.RowKit Go.Lib in
theorem Tryz.strings_Cut (s sep : ByteArray) (m : Int) (w : World) (hs : s.size < 4294967281) (hm : w.cell? ⟨0, 0, none⟩ = some (.int .i64 m)) :
    Calls Tryz.prog 40 #[.string s, .string sep] w fun e w' => e = .returned (.tuple #[.string ⟨(Lib.cut s.data.toList sep.data.toList).1.toArray⟩, .string ⟨(Lib.cut s.data.toList sep.data.toList).2.1.toArray⟩, .bool (Lib.cut s.data.toList sep.data.toList).2.2]) ∧ ∃ n, w' = w.drewN n := Any.strings_Cut Tryz.lays145 s sep m w hs hm
def Tryz.lays99_ren : Go.Shelf.Ren := ⟨fun | 99 => 68 | 206 => 51 | n => n, fun | 9 => 9 | 4 => 4 | 3 => 3 | n => n, fun | n => n⟩
theorem Tryz.lays99 : Go.Proofs.Lays.n99 Tryz.prog Tryz.lays99_ren := {
  mixed := by kernel_rfl
  f99 := Tryz.func68.trans (congrArg some (by kernel_rfl))
  f206 := Tryz.func51.trans (congrArg some (by kernel_rfl))
  t3 := Tryz.underlying3
  a3 := Tryz.isAgg3
  z3 := Tryz.sizeOf3
  v3 := Tryz.zeroValue3
  t4 := Tryz.underlying4
  a4 := Tryz.isAgg4
  z4 := Tryz.sizeOf4
  v4 := Tryz.zeroValue4
  t9 := Tryz.underlying9
  a9 := Tryz.isAgg9
  z9 := Tryz.sizeOf9
  v9 := Tryz.zeroValue9 }
open Go.RowKit Go.Lib in
theorem Tryz.strings_HasPrefix (s p : ByteArray) (w : World) :
    Calls Tryz.prog 68 #[.string s, .string p] w fun e w' => e = .returned (.bool (Lib.hasPrefix s.data.toList p.data.toList)) ∧ w' = w := Any.strings_HasPrefix Tryz.lays99 s p w
def Tryz.lays146_ren : Go.Shelf.Ren := ⟨fun | 146 => 42 | 221 => 57 | 268 => 69 | 138 => 70 | 143 => 71 | 195 => 86 | 197 => 87 | 218 => 88 | 219 => 66 | 260 => 100 | 217 => 82 | 225 => 83 | 224 => 84 | 267 => 85 | 266 => 98 | 314 => 99 | n => n, fun | 9 => 9 | 31 => 41 | 3 => 3 | 4 => 4 | 0 => 0 | 105 => 98 | 21 => 21 | 5 => 5 | 46 => 96 | 119 => 128 | 139 => 131 | 138 => 130 | 146 => 114 | 51 => 113 | n => n, fun | 1 => 0 | 3 => 4 | 4 => 5 | n => n⟩
theorem Tryz.lays146 : Go.Proofs.Lays.n146 Tryz.prog Tryz.lays146_ren := {
  mixed := by kernel_rfl
  f138 := Tryz.func70.trans (congrArg some (by kernel_rfl))
  f143 := Tryz.func71.trans (congrArg some (by kernel_rfl))
  f146 := Tryz.func42.trans (congrArg some (by kernel_rfl))
  f195 := Tryz.func86.trans (congrArg some (by kernel_rfl))
  f197 := Tryz.func87.trans (congrArg some (by kernel_rfl))
  f217 := Tryz.func82.trans (congrArg some (by kernel_rfl))
  f218 := Tryz.func88.trans (congrArg some (by kernel_rfl))
  f219 := Tryz.func66.trans (congrArg some (by kernel_rfl))
  f221 := Tryz.func57.trans (congrArg some (by kernel_rfl))
  f224 := Tryz.func84.trans (congrArg some (by kernel_rfl))
  f225 := Tryz.func83.trans (congrArg some (by kernel_rfl))
  f260 := Tryz.func100.trans (congrArg some (by kernel_rfl))
  f266 := Tryz.func98.trans (congrArg some (by kernel_rfl))
  f267 := Tryz.func85.trans (congrArg some (by kernel_rfl))
  f268 := Tryz.func69.trans (congrArg some (by kernel_rfl))
  f314 := Tryz.func99.trans (congrArg some (by kernel_rfl))
  t0 := Tryz.underlying0
  a0 := Tryz.isAgg0
  z0 := Tryz.sizeOf0
  v0 := Tryz.zeroValue0
  t3 := Tryz.underlying3
  a3 := Tryz.isAgg3
  z3 := Tryz.sizeOf3
  v3 := Tryz.zeroValue3
  t4 := Tryz.underlying4
  a4 := Tryz.isAgg4
  z4 := Tryz.sizeOf4
  v4 := Tryz.zeroValue4
  t5 := Tryz.underlying5
  a5 := Tryz.isAgg5
  z5 := Tryz.sizeOf5
  v5 := Tryz.zeroValue5
  t9 := Tryz.underlying9
  a9 := Tryz.isAgg9
  z9 := Tryz.sizeOf9
  v9 := Tryz.zeroValue9
  t21 := Tryz.underlying21
  a21 := Tryz.isAgg21
  z21 := Tryz.sizeOf21
  v21 := Tryz.zeroValue21
  t31 := Tryz.underlying41
  a31 := Tryz.isAgg41
  z31 := Tryz.sizeOf41
  v31 := Tryz.zeroValue41
  t46 := Tryz.underlying96
  a46 := Tryz.isAgg96
  z46 := Tryz.sizeOf96
  v46 := Tryz.zeroValue96
  t51 := Tryz.underlying113
  a51 := Tryz.isAgg113
  z51 := Tryz.sizeOf113
  v51 := Tryz.zeroValue113
  t105 := Tryz.underlying98
  a105 := Tryz.isAgg98
  z105 := Tryz.sizeOf98
  v105 := Tryz.zeroValue98
  t119 := Tryz.underlying128
  a119 := Tryz.isAgg128
  z119 := Tryz.sizeOf128
  t138 := Tryz.underlying130
  a138 := Tryz.isAgg130
  z138 := Tryz.sizeOf130
  v138 := Tryz.zeroValue130
  t139 := Tryz.underlying131
  a139 := Tryz.isAgg131
  z139 := Tryz.sizeOf131
  v139 := Tryz.zeroValue131
  t146 := Tryz.underlying114
  a146 := Tryz.isAgg114
  z146 := Tryz.sizeOf114
  v146 := Tryz.zeroValue114
  g1 := by kernel_rfl
  g3 := by kernel_rfl
  g4 := by kernel_rfl }
open Go.RowKit Go.Lib in
theorem Tryz.strings_Split (s sep : ByteArray) (m : Int) (w : World) (hs : s.size < 4294967281) (hm : w.cell? ⟨0, 0, none⟩ = some (.int .i64 m)) (h1 : 1 ≤ sep.size) :
    Calls Tryz.prog 42 #[.string s, .string sep] w fun e w' =>
      e = .returned (.slice (some ⟨w.heap.size, 0, none⟩) (Lib.countB s sep + 1) (Lib.countB s sep + 1)) ∧ w' = w.alloc (.cells ((Lib.splitB sep 0 (Lib.countB s sep) s).map Value.string).toArray 9) := Any.strings_Split Tryz.lays146 (by kernel_rfl) s sep m w hs hm h1
def Tryz.lays166_ren : Go.Shelf.Ren := ⟨fun | 166 => 78 | 240 => 92 | 276 => 103 | n => n, fun | 0 => 0 | 3 => 3 | 4 => 4 | 5 => 5 | 9 => 9 | 20 => 20 | 37 => 73 | 70 => 88 | 72 => 90 | 75 => 66 | 80 => 92 | 164 => 120 | n => n, fun | n => n⟩
end Go.Proofs

/-
  The library's contracts: joined texts. No condition.
-/
set_option linter.unusedVariables false
set_option linter.unusedSimpArgs false
namespace Pl
open Go
theorem interL_eq (sep : List UInt8) : ∀ xs : List (List UInt8), Go.Lib.join xs sep = interL sep xs
  | [] => rfl
  | [x] => by simp [Go.Lib.join, List.intercalate, interL]
  | x :: y :: r => by
    have := interL_eq sep (y :: r)
    simp only [Go.Lib.join, List.intercalate, List.intersperse_cons_cons, List.flatten_cons] at this ⊢
    rw [interL, ← this]; simp
end Pl
namespace Cg
open Go Go.Proofs Pl
theorem Ext.ofBelow {w w' : World} (h : Go.RowKit.Below w.heap.size w w') : Ext w w' := ⟨h.os, h.tape, h.output, h.size, h.block⟩
theorem k_Join : SoundC Tryz.prog K_Join.1 K_Join.2 := ⟨callable_of (by kernel_rfl), fun x hx S w vals hin hgl hrel => by
  obtain ⟨xs, sep⟩ := x
  obtain ⟨h1, h2⟩ : xs.length ≤ 140737488355328 ∧ (joinS xs sep).size ≤ 140737488355328 := hx
  obtain ⟨y0, r0, rfl, ha, y1, r1, rfl, hb, hc⟩ := hrel
  cases hc
  obtain ⟨a, cap, rfl, hcap, ha⟩ := ha
  have hb : y1 = .string sep := hb
  subst hb
  have hj : (⟨(Go.Lib.join (xs.map (·.data.toList)) sep.data.toList).toArray⟩ : ByteArray) = joinS xs sep := by
    rw [interL_eq]; rfl
  rcases ha with h0 | ⟨b, off, rfl, hS, c, T, fr, hheap, hcells⟩
  · have e : xs = [] := List.length_eq_zero_iff.1 h0
    subst e
    exact (Tryz.strings_Join_none a cap sep w).mono fun e w' ⟨he, hw⟩ => by
      subst hw
      exact ⟨_, S, he, Ext.refl _, fun _ h => h, fun _ h => .inl h, hin, rfl⟩
  · refine (Tryz.strings_Join b off cap xs sep w (fun j x hj => ?_) (hin b hS) h1 hcap (by
      have : (joinS xs sep).size = (Go.Lib.join (xs.map (·.data.toList)) sep.data.toList).length := by rw [← hj]; simp [ByteArray.size]
      omega)).mono fun e w' ⟨he, hw⟩ => ?_
    · obtain ⟨hlt, e⟩ := List.getElem?_eq_some_iff.1 hj
      obtain ⟨y, h3, h4⟩ := hcells j hlt 0 (by decide)
      have h4' : RelI S w (.v (.string (xs.getD j ByteArray.empty))) y := h4
      rw [RelI] at h4'
      have h5 : y = .string (xs.getD j ByteArray.empty) := h4'.1
      rw [h5] at h3
      simp only [Nat.mul_one, Nat.add_zero] at h3
      simp only [World.cell?, hheap, h3]
      simp [← e, hlt]
    · rw [hj] at he
      exact ⟨_, S, he, Ext.ofBelow hw, fun _ h => h, fun _ h => .inl h, fun b hb => Nat.lt_of_lt_of_le (hin b hb) hw.size, rfl⟩⟩
end Cg

/-
  What is left to show of each function's code, printed by a program: Same. No condition.
-/
set_option maxRecDepth 100000
set_option linter.unusedVariables false
namespace Cg
open Go Go.Proofs
theorem vc_eqAtom (x : Pl.Atm × Pl.Atm) : (condP (x.1.1 != x.2.1) (false = decide (x.1 = x.2))
 (∃ x_1 : Pl.TP × Pl.TP,
 ((x.1.2.1.1 = x_1.1.1 ∧ Is (terms x.1.2.1.2) (terms x_1.1.2) ∧ True) ∧ (x.2.2.1.1 = x_1.2.1 ∧ Is (terms x.2.2.1.2) (terms x_1.2.2) ∧ True) ∧ True) ∧ SmT (Pl.Tree.mk x_1.1.1 x_1.1.2) ∧ condP (!decide (x_1.1 = x_1.2)) (false = decide (x.1 = x.2))
 (∃ x_2 : Pl.TP × Pl.TP,
 ((x.1.2.2.1.1 = x_2.1.1 ∧ Is (terms x.1.2.2.1.2) (terms x_2.1.2) ∧ True) ∧ (x.2.2.2.1.1 = x_2.2.1 ∧ Is (terms x.2.2.2.1.2) (terms x_2.2.2) ∧ True) ∧ True) ∧ SmT (Pl.Tree.mk x_2.1.1 x_2.1.2) ∧ condP (!decide (x_2.1 = x_2.2)) (false = decide (x.1 = x.2))
 (∃ x_3 : List Pl.Tm × List Pl.Tm,
 (Is (terms x.1.2.2.2.1) (terms x_3.1) ∧ Is (terms x.2.2.2.2.1) (terms x_3.2) ∧ True) ∧ SmTs x_3.1 ∧ condP (!decide (x_3.1 = x_3.2)) (false = decide (x.1 = x.2))
 (∃ x_4 : List Int × List Int,
 (Is (ints x.1.2.2.2.2.1) (ints x_4.1) ∧ Is (ints x.2.2.2.2.2.1) (ints x_4.2) ∧ True) ∧ Sz x_4.1 ∧ condP (!decide (x_4.1 = x_4.2)) (false = decide (x.1 = x.2))
 (condP (x.1.2.2.2.2.2.1 != x.2.2.2.2.2.2.1) (false = decide (x.1 = x.2))
 (condP (!x.1.2.2.2.2.2.2 == x.2.2.2.2.2.2.2) (false = decide (x.1 = x.2))
 (true = decide (x.1 = x.2))))))))) = Goal Tryz.prog [K_eqT, K_eqTs, K_eqIntS] ([]) K_eqAtom.1 K_eqAtom.2 (x) := by kernel_rfl

end Cg

/-
  The codes' contracts: atoms, formulas, explanations, cases: sizes, copies, equality. No condition.
-/
set_option linter.unusedVariables false
set_option linter.unusedSimpArgs false
set_option maxRecDepth 100000
set_option maxHeartbeats 1000000
namespace Cg
open Go Go.Proofs Pl
section
variable {α : Type} {f : α → Nat}
theorem SmTrs.mem {l : List (Tree α)} (h : SmTrs f l) {t : Tree α} (ht : t ∈ l) : SmTr f t := by
  have := costTr_mem (f := f) ht
  have h1 : l.length + costTrs f l ≤ 1048576 := h
  show costTr f t ≤ 1048576
  omega
theorem SmTrs.len {l : List (Tree α)} (h : SmTrs f l) : l.length ≤ 1048576 := by
  have h1 : l.length + costTrs f l ≤ 1048576 := h
  omega
theorem SmTr.kids {v : α} {ks : List (Tree α)} (h : SmTr f (.mk v ks)) : SmTrs f ks := by
  have h1 : costTr f (.mk v ks) ≤ 1048576 := h
  rw [costTr_eq] at h1
  simp only [Tree.val, Tree.kids] at h1
  show ks.length + costTrs f ks ≤ 1048576
  omega
theorem SmTr.here {v : α} {ks : List (Tree α)} (h : SmTr f (.mk v ks)) : f v ≤ 1048576 := by
  have h1 : costTr f (.mk v ks) ≤ 1048576 := h
  rw [costTr_eq] at h1
  simp only [Tree.val, Tree.kids] at h1
  omega
end
theorem SmA.parts {x : Atm} (h : SmA x) : SmT (.mk x.2.1.1 x.2.1.2) ∧ SmT (.mk x.2.2.1.1 x.2.2.1.2) ∧ SmTs x.2.2.2.1 ∧ x.2.2.2.2.1.length ≤ 1048576 := by
  have h1 : costA x ≤ 1048576 := h
  unfold costA at h1
  refine ⟨?_, ?_, ?_, by omega⟩
  · show costT _ ≤ _; omega
  · show costT _ ≤ _; omega
  · show _ + _ ≤ _; omega

theorem k_eqAtom : SoundC Tryz.prog K_eqAtom.1 K_eqAtom.2 := sound_of hm (((CtxOK.nil.and k_eqIntS).and k_eqTs).and k_eqT) (fun _ => []) (by kernel_rfl) fun x hl => (by
  rw [← vc_eqAtom x]
  obtain ⟨s1, s2, s3, s4⟩ := SmA.parts (x := x.1) hl
  obtain ⟨⟨kind, A, B, nums, times, bound, strict⟩, kind', A', B', nums', times', bound', strict'⟩ := x
  dsimp only at *
  simp [-List.getD_eq_getElem?_getD, -List.mem_cons, -Bool.forall_bool, -Bool.exists_bool, and_assoc, peta, tl_inj, ex_1, ex_2, ex_3, ex_4, ex_5, ex_6, ex_7, ex_8, ex_9, ey_2, ey_3, ey_4, ey_5, ey_6, ey_7, ey_8, ey_9]
  repeat' (first | apply And.intro | intro _)
  all_goals first | contradiction | assumption | omega | grind)

end Cg

/-
  The codes' contracts: valid atoms. No condition.
-/
set_option linter.unusedVariables false
set_option linter.unusedSimpArgs false
set_option maxRecDepth 100000
set_option maxHeartbeats 1000000
namespace Pl
open Go Cg
theorem textBs_map : ∀ l : List Tm, textBs l = l.map textB
  | [] => rfl
  | t :: ts => by simp only [textBs, List.map_cons, textBs_map ts]
theorem interL_snoc {sep t : List UInt8} : ∀ {ts : List (List UInt8)}, ts ≠ [] → interL sep (ts ++ [t]) = interL sep ts ++ sep ++ t
  | [], h => absurd rfl h
  | [x], _ => by simp [interL]
  | x :: y :: r, _ => by
    have := interL_snoc (sep := sep) (t := t) (ts := y :: r) (by simp)
    simp only [List.cons_append] at this ⊢
    simp only [interL, this, List.append_assoc]
theorem interL_len (sep : List UInt8) (h1 : sep.length = 1) : ∀ ts : List (List UInt8), (interL sep ts).length ≤ sumN List.length ts + ts.length - 1
  | [] => by simp [interL]
  | [x] => by simp [interL, sumN]
  | x :: y :: r => by
    have := interL_len sep h1 (y :: r)
    simp only [interL, List.length_append, sumN, List.length_cons] at this ⊢
    omega
theorem textB_mk (v : ByteArray) (ks : List Tm) : textB (.mk v ks) = if ks = [] then bl' v else spellB (bl' v) (textBs ks) ++ [41] := by
  rw [textB]
  cases ks with
  | nil => rfl
  | cons k r => simp [spellB, textBs]
theorem spellB_step {v : List UInt8} {l : List Tm} {k : Nat} (h : k < l.length) : spellB v (textBs (l.take (k + 1))) = (spellB v (textBs (l.take k)) ++ [if k = 0 then 40 else 44]) ++ textB (l.getD k dT) := by
  rw [take_getD dT h, textBs_map, textBs_map, List.map_append]
  unfold spellB
  by_cases h0 : k = 0
  · subst h0; simp [interL]
  · have hne : (l.take k).map textB ≠ [] := by
      intro e
      have := congrArg List.length e
      rw [List.length_map, List.length_take, List.length_nil] at this
      omega
    have h2 : ((l.take k).map textB).isEmpty = false := by cases hh : (l.take k).map textB with
      | nil => exact absurd hh hne
      | cons _ _ => rfl
    have h3 : ((l.take k).map textB ++ [l.getD k dT].map textB).isEmpty = false := by cases hh : (l.take k).map textB with
      | nil => exact absurd hh hne
      | cons _ _ => rfl
    rw [h2, h3, if_neg h0]
    simp only [List.map_cons, List.map_nil, Bool.false_eq_true, if_false]
    rw [interL_snoc hne]; simp only [List.append_assoc]
mutual
theorem textB_len : ∀ t : Tm, (textB t).length ≤ 2 * costT t
  | .mk v ks => by
    have h := textBs_len ks
    have hl := interL_len [44] rfl (textBs ks)
    have hm : (textBs ks).length = ks.length := by rw [textBs_map]; simp
    rw [textB_mk]
    rw [costT]
    have e : (bl' v).length = v.size := rfl
    by_cases h0 : ks = []
    · rw [if_pos h0]; omega
    · rw [if_neg h0]
      have hp : 0 < ks.length := by cases ks with
        | nil => exact absurd rfl h0
        | cons _ _ => simp
      have hq : (textBs ks).isEmpty = false := by cases hh : textBs ks with
        | nil => rw [hh] at hm; simp at hm; omega
        | cons _ _ => rfl
      unfold spellB
      rw [hq]
      simp only [Bool.false_eq_true, if_false, List.length_append, List.length_singleton]
      omega
theorem textBs_len : ∀ l : List Tm, sumN List.length (textBs l) ≤ 2 * costTs l
  | [] => by simp [textBs, sumN]
  | t :: ts => by
    have h1 := textB_len t
    have h2 := textBs_len ts
    simp only [textBs, sumN, costTs]
    omega
end
theorem spellB_len (v : List UInt8) (l : List Tm) (k : Nat) : (spellB v (textBs (l.take k))).length ≤ v.length + 2 * costTs l + l.length + 1 := by
  have h := textBs_len l
  have e : textBs (l.take k) = (textBs l).take k := by rw [textBs_map, textBs_map, List.map_take]
  have hl := interL_len [44] rfl (textBs (l.take k))
  have hs := sumN_take_le List.length (textBs l) k
  have hm : (textBs (l.take k)).length ≤ l.length := by rw [textBs_map]; simp; omega
  rw [e] at hl hm ⊢
  unfold spellB
  split
  · omega
  · simp only [List.length_append, List.length_singleton]; omega
theorem textL_join (l : List Tm) : joinS (textL l) ⟨#[44]⟩ = mkB (interL [44] (textBs l)) := by
  unfold joinS textL
  rw [textBs_map, List.map_map]
  rfl
@[simp] theorem mkB_list (l : List UInt8) : (mkB l).data.toList = l := rfl
@[simp] theorem mkB_size (l : List UInt8) : (mkB l).size = l.length := rfl
end Pl
namespace Cg
open Go Go.Proofs Pl
theorem k_l4Text (n : Nat) : SoundC Tryz.prog (K_l4Text n).1 (K_l4Text n).2 := by
  induction n with
  | zero => exact sound_of hm CtxOK.nil (fun _ => []) (by kernel_rfl) fun x h => absurd h.2 (Nat.not_lt_zero _)
  | succ n ih => exact sound_of hm (CtxOK.nil.and (K := K_l4Text n) ih) (fun x => A_l4Text x.1 x.2) (by kernel_rfl) fun (x : TP) hl => (by
      have ht : SmT (.mk x.1 x.2) := hl.1
      have hn : manyL x.2 < n + 1 := hl.2
      clear hl
      rw [← vc_l4Text n x]
      obtain ⟨a, b⟩ := x
      dsimp only at *
      simp [-List.getD_eq_getElem?_getD, -List.mem_cons, -Bool.forall_bool, -Bool.exists_bool, and_assoc, peta, tl_inj, ex_1, ex_2, ex_3, ex_4, ex_5, ex_6, ex_7, ex_8, ex_9, ey_2, ey_3, ey_4, ey_5, ey_6, ey_7, ey_8, ey_9]
      have k1 := (SmT.kids ht).len
      have hc : a.size + b.length + costTs b ≤ 1048576 := by have h : costT (.mk a b) ≤ 1048576 := ht; rw [costT] at h; exact h
      have hb : (bl' a).length = a.size := rfl
      have hsz : ∀ k, (spell a (b.take k)).size ≤ 2097153 * 2 := fun k => by
        have := spellB_len (bl' a) b k
        show (spellB (bl' a) (textBs (b.take k))).length ≤ _
        omega
      have ht1 : ∀ t ∈ b, (textT t).size ≤ 2097152 := fun t h => by
        have h1 := textB_len t
        have h2 : costT t ≤ 1048576 := (SmT.kids ht).mem h
        show (textB t).length ≤ _
        omega
      have key : ∀ (k : Nat) (c : UInt8), k < b.length → c = (if k = 0 then 40 else 44) →
          ({ data := { toList := (spell a (List.take k b)).data.toList ++ c :: (textT (b.getD k dT)).data.toList } } : ByteArray) = spell a (b.take (k + 1)) := fun k c hk hc => by
        show mkB _ = mkB _
        rw [spellB_step hk, ← hc]
        congr 1
        show spellB (bl' a) (textBs (b.take k)) ++ c :: textB (b.getD k dT) = _
        simp
      have sz : ∀ (l : List UInt8) (c : UInt8), (ByteArray.mk ⟨l ++ [c]⟩).size = l.length + 1 := fun l c => by
        show (l ++ [c]).length = _
        simp
      refine ⟨⟨0, by simp, by show a = mkB _; rfl, rfl⟩, fun k hk => ⟨fun hlt => ⟨fun h0 => ?_, fun h0 => ?_⟩, fun hge => ⟨fun h0 => ?_, fun h0 => ?_⟩⟩⟩
      · have h1 := hsz k
        have h2 := ht1 _ (getD_mem dT hlt)
        refine ⟨by omega, hlt, (SmT.kids ht).mem (getD_mem dT hlt), by have := manyL_kids (getD_mem dT hlt); omega, ?_, k + 1, hlt, by omega, key k 40 hlt (by rw [if_pos h0]), wrap_small (by omega) (by omega)⟩
        rw [sz]
        have h3 : (spell a (b.take k)).data.toList.length = (spell a (b.take k)).size := rfl
        omega
      · have h1 := hsz k
        have h2 := ht1 _ (getD_mem dT hlt)
        refine ⟨by omega, hlt, (SmT.kids ht).mem (getD_mem dT hlt), by have := manyL_kids (getD_mem dT hlt); omega, ?_, k + 1, hlt, by omega, key k 44 hlt (by rw [if_neg h0]), wrap_small (by omega) (by omega)⟩
        rw [sz]
        have h3 : (spell a (b.take k)).data.toList.length = (spell a (b.take k)).size := rfl
        omega
      · have h1 := hsz k
        refine ⟨by omega, ?_⟩
        show mkB _ = mkB _
        rw [textB_mk, if_neg (by intro e; rw [e] at h0; simp at h0), List.take_of_length_le (by omega)]
        rfl
      · show mkB _ = mkB _
        rw [textB_mk, if_pos h0, h0, List.take_nil]
        rfl)
theorem k_lText : SoundC Tryz.prog K_lText.1 K_lText.2 := SoundC.fam (fun x => manyL x.2) fun n => k_l4Text n
theorem k_termText (n : Nat) : SoundC Tryz.prog (K_termText n).1 (K_termText n).2 := by
  induction n with
  | zero => exact sound_of hm CtxOK.nil (fun _ => []) (by kernel_rfl) fun x h => absurd h.2 (Nat.not_lt_zero _)
  | succ n ih => exact sound_of hm ((CtxOK.nil.and k_Join).and (K := K_termText n) ih) (fun x => A_termText x.1 x.2) (by kernel_rfl) fun (x : TP) hl => (by
      have ht : SmT (.mk x.1 x.2) := hl.1
      have hn : manyL x.2 < n + 1 := hl.2
      clear hl
      rw [← vc_termText n x]
      obtain ⟨a, b⟩ := x
      dsimp only at *
      simp [-List.getD_eq_getElem?_getD, -List.mem_cons, -Bool.forall_bool, -Bool.exists_bool, and_assoc, peta, tl_inj, ex_1, ex_2, ex_3, ex_4, ex_5, ex_6, ex_7, ex_8, ex_9, ey_2, ey_3, ey_4, ey_5, ey_6, ey_7, ey_8, ey_9]
      have k1 := (SmT.kids ht).len
      have hc : a.size + b.length + costTs b ≤ 1048576 := by have h : costT (.mk a b) ≤ 1048576 := ht; rw [costT] at h; exact h
      have hll : ∀ k, (textL (b.take k)).length ≤ b.length := fun k => by unfold textL; simp; omega
      refine ⟨fun h0 => ?_, fun h0 => ⟨⟨0, by simp, h0, rfl, rfl, rfl⟩, fun k hk _ => ⟨fun hlt => ?_, fun hge => ?_⟩⟩⟩
      · show a = mkB _
        rw [textB_mk, if_pos h0]; rfl
      · have hs1 : textL (b.take (k + 1)) = textL (b.take k) ++ [textT (b.getD k dT)] := by
          unfold textL; rw [take_getD dT hlt]; simp
        have h1 := hll k
        refine ⟨hlt, (SmT.kids ht).mem (getD_mem dT hlt), by have := manyL_kids (getD_mem dT hlt); omega, by omega, k + 1, hlt, h0, by omega, by rw [hs1]; simp, wrap_small (by omega) (by omega), ?_⟩
        rw [hs1]; exact strs_push
      · rw [List.take_of_length_le (by omega), textL_join]
        have hb : (bl' a).length = a.size := rfl
        have hsum := textBs_len b
        have hl := interL_len [44] rfl (textBs b)
        have hm : (textBs b).length = b.length := by rw [textBs_map]; simp
        have hlb : (textL b).length = b.length := by unfold textL; simp
        have sz : ∀ l : List UInt8, (ByteArray.mk ⟨l⟩).size = l.length := fun l => rfl
        have ha : a.data.toList.length = a.size := rfl
        simp only [mkB_list, mkB_size, sz, List.length_append, List.length_cons, List.length_nil]
        refine ⟨by show (a.size : Int) + 1 ≤ _; omega, by omega, by omega, by omega, by omega, ?_⟩
        show mkB _ = mkB _
        rw [textB_mk, if_neg h0]
        have hq : (textBs b).isEmpty = false := by cases hh : textBs b with
          | nil => rw [hh] at hm; simp at hm; exact absurd (List.length_eq_zero_iff.1 hm.symm) h0
          | cons _ _ => rfl
        unfold spellB
        rw [hq]
        simp [bl'])
theorem k_tText : SoundC Tryz.prog K_tText.1 K_tText.2 := SoundC.fam (fun x => manyL x.2) fun n => k_termText n
theorem k_l6None : SoundC Tryz.prog K_l6None.1 K_l6None.2 := sound_of hm CtxOK.nil (fun _ => []) (by kernel_rfl) fun (x : TP) hl => (by
  rw [← vc_l6None x]
  obtain ⟨a, b⟩ := x
  dsimp only at *
  simp [-List.getD_eq_getElem?_getD, -List.mem_cons, -Bool.forall_bool, -Bool.exists_bool, and_assoc, peta, tl_inj, ex_1, ex_2, ex_3, ex_4, ex_5, ex_6, ex_7, ex_8, ex_9, ey_2, ey_3, ey_4, ey_5, ey_6, ey_7, ey_8, ey_9]
  unfold noneT
  have e : a.toList = [] ↔ a = ByteArray.empty := by
    rw [← tl_inj (b := ByteArray.empty)]
    have : ByteArray.empty.toList = [] := by rw [ByteArray.toList_eq]; rfl
    rw [this]
  refine ⟨fun h => ?_, fun h => ?_⟩
  · rw [decide_eq_true (e.1 h), Bool.true_and, Bool.beq_eq_decide_eq]
    congr 1
    simp only [eq_iff_iff, List.length_eq_zero_iff, Int.natCast_eq_zero]
  · rw [decide_eq_false (fun h2 => h (e.2 h2))]; rfl)
theorem k_isNone : SoundC Tryz.prog K_isNone.1 K_isNone.2 := sound_of hm CtxOK.nil (fun _ => []) (by kernel_rfl) fun (x : TP) hl => (by
  rw [← vc_isNone x]
  obtain ⟨a, b⟩ := x
  dsimp only at *
  simp [-List.getD_eq_getElem?_getD, -List.mem_cons, -Bool.forall_bool, -Bool.exists_bool, and_assoc, peta, tl_inj, ex_1, ex_2, ex_3, ex_4, ex_5, ex_6, ex_7, ex_8, ex_9, ey_2, ey_3, ey_4, ey_5, ey_6, ey_7, ey_8, ey_9]
  unfold noneT
  have e : a.toList = [] ↔ a = ByteArray.empty := by
    rw [← tl_inj (b := ByteArray.empty)]
    have : ByteArray.empty.toList = [] := by rw [ByteArray.toList_eq]; rfl
    rw [this]
  refine ⟨fun h => ?_, fun h => ?_⟩
  · rw [decide_eq_true (e.1 h), Bool.true_and, Bool.beq_eq_decide_eq]
    congr 1
    simp only [eq_iff_iff, List.length_eq_zero_iff, Int.natCast_eq_zero]
  · rw [decide_eq_false (fun h2 => h (e.2 h2))]; rfl)
theorem num_step {nums : List Tm} {times : List Int} {k : Nat} (h1 : k < nums.length) (h2 : k < times.length) (he : numOk none nums times = numOk (prevN nums k) (nums.drop k) (times.drop k)) :
    (right (nums.getD k dT) = false → numOk none nums times = false) ∧ (timeOk (times.getD k 0) = false → numOk none nums times = false) ∧ (above (prevN nums k) (nums.getD k dT) = false → numOk none nums times = false) ∧
    (right (nums.getD k dT) = true → timeOk (times.getD k 0) = true → above (prevN nums k) (nums.getD k dT) = true → numOk none nums times = numOk (prevN nums (k + 1)) (nums.drop (k + 1)) (times.drop (k + 1))) := by
  rw [drop_get dT h1, drop_get 0 h2] at he
  simp only [numOk] at he
  refine ⟨fun h => by rw [he, h]; rfl, fun h => by rw [he, h]; simp, fun h => by rw [he, h]; simp, fun a1 a2 a3 => ?_⟩
  rw [he, a1, a2, a3]
  simp [prevN, -List.getD_eq_getElem?_getD]
theorem num_end {p : Option Tm} {nums : List Tm} {times : List Int} {k : Nat} (h1 : nums.length ≤ k) : numOk p (nums.drop k) (times.drop k) = true := by
  rw [drop_end (by omega)]; cases times.drop k <;> rfl
theorem numOk_right : ∀ {nums : List Tm} {times : List Int} {p : Option Tm}, nums.length = times.length → numOk p nums times = true → ∀ t ∈ nums, right t = true
  | [], _, _, _, _, t, h => by cases h
  | x :: nums, [], _, hl, _, _, _ => by simp at hl
  | x :: nums, n :: times, p, hl, h, t, ht => by
    simp only [numOk, Bool.and_eq_true] at h
    rcases List.mem_cons.1 ht with e | e
    · subst e; exact h.1.1.1
    · exact numOk_right (by simpa using hl) h.2 t e
theorem head_iff (kind : Int) (a b : TP) (nums : List Tm) (times : List Int) (bound : Int) (strict : Bool) : sumHead (kind, a, b, nums, times, bound, strict) = true ↔ noneT a = true ∧ noneT b = true ∧ nums.length = times.length ∧ 1 ≤ nums.length ∧ nums.length ≤ 4 ∧ -1000 ≤ bound ∧ bound ≤ 1000 := by
  simp only [sumHead, Bool.and_eq_true, decide_eq_true_eq, and_assoc]
theorem above_prev {nums : List Tm} {k : Nat} (h : 0 < k) : above (prevN nums k) (nums.getD k dT) = Op.bytesLess (textT (nums.getD (k - 1) dT)).toList (textT (nums.getD k dT)).toList := by
  unfold prevN; rw [if_neg (by omega)]; rfl
theorem above_none {nums : List Tm} {k : Nat} (h : k = 0) : above (prevN nums k) (nums.getD k dT) = true := by
  unfold prevN; rw [if_pos h]; rfl
theorem timeOk_iff {n : Int} : timeOk n = true ↔ n ≠ 0 ∧ -50 ≤ n ∧ n ≤ 50 := by
  simp only [timeOk, Bool.and_eq_true, decide_eq_true_eq, and_assoc]
theorem timeOk_no {n : Int} (h : ¬ (n ≠ 0 ∧ -50 ≤ n ∧ n ≤ 50)) : timeOk n = false := by
  cases e : timeOk n with
  | false => rfl
  | true => exact absurd (timeOk_iff.1 e) h

theorem k_l6Sum : SoundC Tryz.prog K_l6Sum.1 K_l6Sum.2 := sound_of hm (((CtxOK.nil.and k_lText).and k_l4Right).and k_l6None) (fun x => A_l6Sum x) (by kernel_rfl) fun (x : Atm) hl => (by
  have hs : SmA x := hl
  clear hl
  rw [← vc_l6Sum x]
  obtain ⟨kind, ⟨a, b⟩, ⟨c, d⟩, nums, times, bound, strict⟩ := x
  dsimp only at *
  simp [-List.getD_eq_getElem?_getD, -List.mem_cons, -Bool.forall_bool, -Bool.exists_bool, and_assoc, peta, tl_inj, ex_1, ex_2, ex_3, ex_4, ex_5, ex_6, ex_7, ex_8, ex_9, ey_2, ey_3, ey_4, ey_5, ey_6, ey_7, ey_8, ey_9]
  obtain ⟨_, _, q3, q4⟩ : SmT (.mk a b) ∧ SmT (.mk c d) ∧ SmTs nums ∧ times.length ≤ 1048576 := SmA.parts hs
  have q5 := q3.len
  have hd := head_iff kind (a, b) (c, d) nums times bound strict
  generalize hX : ((kind, (a, b), (c, d), nums, times, bound, strict) : Atm) = X at *
  have eN : sumRight X = (sumHead X && numOk none nums times) := by subst hX; rfl
  clear hs
  have noH : (sumHead X = true → False) → sumRight X = false := fun h => by
    rw [eN]
    cases e : sumHead X with
    | false => rfl
    | true => exact (h e).elim
  have noN : numOk none nums times = false → sumRight X = false := fun h => by rw [eN, h]; simp
  refine ⟨fun g1 => noH fun h => (by rw [(hd.1 h).1] at g1; cases g1), fun g1 => ⟨fun g2 => noH fun h => (by rw [(hd.1 h).2.1] at g2; cases g2), fun g2 => ⟨fun g3 => noH fun h => (by have := hd.1 h; omega), fun g3 => ⟨fun g4 => noH fun h => (by have := hd.1 h; omega), fun g4 => ⟨fun g5 => noH fun h => (by have := hd.1 h; omega), fun g5 => ⟨fun g6 => noH fun h => (by have := hd.1 h; omega), fun g6 => ⟨fun g7 => noH fun h => (by have := hd.1 h; omega), fun g7 => ?_⟩⟩⟩⟩⟩⟩⟩
  have g3' : nums.length = times.length := by omega
  have hh : sumHead X = true := hd.2 ⟨g1, g2, by omega, by omega, by omega, g6, g7⟩
  refine ⟨hh, ⟨0, by simp, by simp [prevN], rfl⟩, fun k _ hk he => ⟨fun hlt => ?_, fun hge => ?_⟩⟩
  · obtain ⟨e1, e2, e3, e4⟩ := num_step hlt (by omega) he
    refine ⟨by omega, hlt, q3.mem (getD_mem dT hlt), fun h => noN (e1 h), fun r1 => ⟨fun h => noN (e2 (timeOk_no (by omega))), fun r2 => ⟨fun h => noN (e2 (timeOk_no (by omega))), fun r3 => ⟨fun h => noN (e2 (timeOk_no (by omega))), fun r4 => ⟨fun hp => ?_, fun hz => ⟨hh, k + 1, hlt, e4 r1 (timeOk_iff.2 ⟨r2, r3, r4⟩) (above_none hz), by omega, wrap_small (by omega) (by omega)⟩⟩⟩⟩⟩⟩
    rw [wrap_small (x := (k : Int) - 1) (by omega) (by omega)]
    have e : ((k : Int) - 1).toNat = k - 1 := by omega
    rw [e]
    have hab := above_prev (nums := nums) hp
    exact ⟨by omega, by omega, by omega, q3.mem (getD_mem dT (by omega)), hlt, q3.mem (getD_mem dT hlt), fun h => noN (e3 (by rw [hab]; exact h)), fun h => ⟨hh, k + 1, hlt, e4 r1 (timeOk_iff.2 ⟨r2, r3, r4⟩) (by rw [hab]; exact h), by omega, wrap_small (by omega) (by omega)⟩⟩
  · rw [eN, hh, he, num_end hge]; rfl)
theorem k_l6Right : SoundC Tryz.prog K_l6Right.1 K_l6Right.2 := sound_of hm ((CtxOK.nil.and k_l4Right).and k_l6Sum) (fun _ => []) (by kernel_rfl) fun (x : Atm) hl => (by
  have hs : SmA x := hl
  clear hl
  rw [← vc_l6Right x]
  obtain ⟨kind, ⟨a, b⟩, ⟨c, d⟩, nums, times, bound, strict⟩ := x
  dsimp only at *
  simp [-List.getD_eq_getElem?_getD, -List.mem_cons, -Bool.forall_bool, -Bool.exists_bool, and_assoc, peta, tl_inj, ex_1, ex_2, ex_3, ex_4, ex_5, ex_6, ex_7, ex_8, ex_9, ey_2, ey_3, ey_4, ey_5, ey_6, ey_7, ey_8, ey_9]
  obtain ⟨q1, q2, _, _⟩ := SmA.parts hs
  have e2 : kind = 2 → atomRight (kind, (a, b), (c, d), nums, times, bound, strict) = sumRight (kind, (a, b), (c, d), nums, times, bound, strict) := fun h => by unfold atomRight; rw [if_pos h]
  have e1 : ¬ kind = 2 → atomRight (kind, (a, b), (c, d), nums, times, bound, strict) = (decide (kind = 1) && (right (.mk a b) && right (.mk c d) && decide (nums = []) && decide (times = []) && decide (bound = 0) && !strict)) := fun h => by unfold atomRight; rw [if_neg h]; rfl
  refine ⟨fun h => ⟨hs, (e2 h).symm⟩, fun h => ⟨fun g => ⟨q1, fun g1 => ⟨q2, fun g2 => ⟨fun g3 => ⟨fun g4 => ⟨fun g5 => ?_, fun g5 => ?_⟩, fun g4 => ?_⟩, fun g3 => ?_⟩, fun g2 => ?_⟩, fun g1 => ?_⟩, fun g => ?_⟩⟩
  · rw [e1 h, g1, g2, decide_eq_true g, decide_eq_true g3, decide_eq_true g4, decide_eq_true g5]; simp
  · rw [e1 h, decide_eq_false g5]; simp
  · rw [e1 h, decide_eq_false g4]; simp
  · rw [e1 h, decide_eq_false g3]; simp
  · rw [e1 h, g2]; simp
  · rw [e1 h, g1]; simp
  · rw [e1 h, decide_eq_false g]; simp)
theorem k_Atomok : SoundC Tryz.prog K_Atomok.1 K_Atomok.2 := sound_of hm ((((CtxOK.nil.and k_tText).and k_within).and k_isNone).and k_isTerm) (fun x => A_Atomok x) (by kernel_rfl) fun (x : Atm) hl => (by
  have hs : SmA x := hl
  clear hl
  rw [← vc_Atomok x]
  obtain ⟨kind, ⟨a, b⟩, ⟨c, d⟩, nums, times, bound, strict⟩ := x
  dsimp only at *
  simp [-List.getD_eq_getElem?_getD, -List.mem_cons, -Bool.forall_bool, -Bool.exists_bool, and_assoc, peta, tl_inj, ex_1, ex_2, ex_3, ex_4, ex_5, ex_6, ex_7, ex_8, ex_9, ey_2, ey_3, ey_4, ey_5, ey_6, ey_7, ey_8, ey_9]
  obtain ⟨q1, q2, q3, q4⟩ : SmT (.mk a b) ∧ SmT (.mk c d) ∧ SmTs nums ∧ times.length ≤ 1048576 := SmA.parts hs
  have q5 := q3.len
  have hd := head_iff kind (a, b) (c, d) nums times bound strict
  have e1 : ¬ kind = 2 → atomRight (kind, (a, b), (c, d), nums, times, bound, strict) = (decide (kind = 1) && (right (.mk a b) && right (.mk c d) && decide (nums = []) && decide (times = []) && decide (bound = 0) && !strict)) := fun h => by unfold atomRight; rw [if_neg h]; rfl
  have e2 : kind = 2 → atomRight (kind, (a, b), (c, d), nums, times, bound, strict) = (sumHead (kind, (a, b), (c, d), nums, times, bound, strict) && numOk none nums times) := fun h => by unfold atomRight; rw [if_pos h]; rfl
  generalize hX : ((kind, (a, b), (c, d), nums, times, bound, strict) : Atm) = X at *
  clear hs
  refine ⟨fun g => ?_, fun g => ⟨fun g' => ?_, fun g' => by rw [e1 g', decide_eq_false g]; simp⟩⟩
  · have h : ¬ kind = 2 := by omega
    refine ⟨q1, fun g1 => ⟨q2, fun g2 => ⟨fun g3 => ⟨fun g4 => ⟨fun g5 => ?_, fun g5 => ?_⟩, fun g4 => ?_⟩, fun g3 => ?_⟩, fun g2 => ?_⟩, fun g1 => ?_⟩
    · rw [e1 h, g1, g2, decide_eq_true g, decide_eq_true g3, decide_eq_true g4, decide_eq_true g5]; simp
    · rw [e1 h, decide_eq_false g5]; simp
    · rw [e1 h, decide_eq_false g4]; simp
    · rw [e1 h, decide_eq_false g3]; simp
    · rw [e1 h, g2]; simp
    · rw [e1 h, g1]; simp
  · have eN := e2 g'
    have noH : (sumHead X = true → False) → atomRight X = false := fun h => by
      rw [eN]
      cases e : sumHead X with
      | false => rfl
      | true => exact (h e).elim
    have noN : numOk none nums times = false → atomRight X = false := fun h => by rw [eN, h]; simp
    have win : ∀ {x lo hi : Int}, withinI x lo hi = false ↔ ¬ (lo ≤ x ∧ x ≤ hi) := fun {x lo hi} => by
      simp only [withinI, Bool.and_eq_false_iff, decide_eq_false_iff_not]; omega
    have wiy : ∀ {x lo hi : Int}, withinI x lo hi = true ↔ (lo ≤ x ∧ x ≤ hi) := fun {x lo hi} => by
      simp only [withinI, Bool.and_eq_true, decide_eq_true_eq]
    refine ⟨fun g1 => noH fun h => (by rw [(hd.1 h).1] at g1; cases g1), fun g1 => ⟨fun g2 => noH fun h => (by rw [(hd.1 h).2.1] at g2; cases g2), fun g2 => ⟨fun g3 => noH fun h => (by have := hd.1 h; have := win.1 g3; omega), fun g3 => ⟨fun g4 => noH fun h => (by have := hd.1 h; omega), fun g4 => ⟨fun g5 => noH fun h => (by have := hd.1 h; have := win.1 g5; omega), fun g5 => ?_⟩⟩⟩⟩⟩
    have g3' := wiy.1 g3
    have g5' := wiy.1 g5
    have hh : sumHead X = true := hd.2 ⟨g1, g2, by omega, by omega, by omega, g5'.1, g5'.2⟩
    refine ⟨g', hh, ⟨0, by simp, by simp [prevN], rfl⟩, fun k _ _ hk he => ⟨fun hlt => ?_, fun hge => ?_⟩⟩
    · obtain ⟨f1, f2, f3, f4⟩ := num_step hlt (by omega) he
      refine ⟨hlt, q3.mem (getD_mem dT hlt), fun h => noN (f1 h), fun r1 => ⟨by omega, fun h => noN (f2 (timeOk_no (by have := win.1 h; omega))), fun r2 => ⟨by omega, fun h => noN (f2 (timeOk_no (by omega))), fun r3 => ⟨fun hp => ?_, fun hz => ⟨g', hh, k + 1, hlt, f4 r1 (timeOk_iff.2 ⟨r3, wiy.1 r2⟩) (above_none hz), by omega, wrap_small (by omega) (by omega)⟩⟩⟩⟩⟩
      rw [wrap_small (x := (k : Int) - 1) (by omega) (by omega)]
      have e : ((k : Int) - 1).toNat = k - 1 := by omega
      rw [e]
      have hab := above_prev (nums := nums) hp
      exact ⟨by omega, by omega, by omega, q3.mem (getD_mem dT (by omega)), q3.mem (getD_mem dT hlt), fun h => noN (f3 (by rw [hab]; exact h)), fun h => ⟨g', hh, k + 1, hlt, f4 r1 (timeOk_iff.2 ⟨r3, wiy.1 r2⟩) (by rw [hab]; exact h), by omega, wrap_small (by omega) (by omega)⟩⟩
    · rw [eN, hh, he, num_end hge]; rfl)
theorem right_eq {kind : Int} {a b : TP} {nums : List Tm} {times : List Int} {bound : Int} {strict : Bool} (h : atomRight (kind, a, b, nums, times, bound, strict) = true) :
    (kind = 1 → right (.mk a.1 a.2) = true ∧ right (.mk b.1 b.2) = true) ∧ (¬ kind = 1 → ∀ t ∈ nums, right t = true) := by
  unfold atomRight at h
  split at h
  · rename_i h2
    have h2 : kind = 2 := h2
    refine ⟨fun h1 => by omega, fun _ => ?_⟩
    simp only [sumRight, Bool.and_eq_true] at h
    exact numOk_right ((head_iff kind a b nums times bound strict).1 h.1).2.2.1 h.2
  · simp only [eqRight, Bool.and_eq_true, decide_eq_true_eq] at h
    exact ⟨fun _ => ⟨h.2.1.1.1.1.1, h.2.1.1.1.1.2⟩, fun h1 => absurd h.1 h1⟩
end Cg

/-
  What is left to show of each function's code, printed by a program: Lit. No condition.
-/
set_option maxRecDepth 100000
set_option linter.unusedVariables false
namespace Cg
open Go Go.Proofs
end Cg

/-
  The codes' contracts: lists of literals: sizes, copies, equality. No condition.
-/
set_option linter.unusedVariables false
set_option linter.unusedSimpArgs false
set_option maxRecDepth 100000
set_option maxHeartbeats 1000000
namespace Cg
open Go Go.Proofs Pl
theorem SmLs.mem {l : List Ltr} (h : SmLs l) {x : Ltr} (hx : x ∈ l) : SmA x.1 := by
  have h1 : l.length + sumN costL l ≤ 1048576 := h
  have h2 := sumN_mem costL hx
  have h3 : costL x = costA x.1 := rfl
  show costA x.1 ≤ 1048576
  omega
theorem SmLs.len {l : List Ltr} (h : SmLs l) : l.length ≤ 1048576 := by
  have h1 : l.length + sumN costL l ≤ 1048576 := h
  omega
end Cg

/-
  The codes' contracts: texts. No condition.
-/
set_option linter.unusedVariables false
set_option linter.unusedSimpArgs false
set_option maxRecDepth 100000
namespace Pl
open Go Cg
theorem bapp (a b : List UInt8) : mkB a ++ mkB b = mkB (a ++ b) := by
  apply ByteArray.ext
  rw [ByteArray.data_append]
  apply Array.toList_inj.1
  rw [Array.toList_append]
  rfl
theorem lit0 : ByteArray.mk #[] = mkB [] := rfl
theorem lit1 (a : UInt8) : ByteArray.mk #[a] = mkB [a] := rfl
theorem lit2 (a b : UInt8) : ByteArray.mk #[a, b] = mkB [a, b] := rfl
theorem lit3 (a b c : UInt8) : ByteArray.mk #[a, b, c] = mkB [a, b, c] := rfl
theorem lit4 (a b c d : UInt8) : ByteArray.mk #[a, b, c, d] = mkB [a, b, c, d] := rfl
theorem dec_eq (n : Int) : dec n = mkB (itoa n) := rfl
theorem textT_eq (t : Tm) : textT t = mkB (textB t) := rfl
theorem byteS_eq (x : Int) : byteS x = mkB [UInt8.ofNat x.toNat] := rfl
theorem mkB_inj {a b : List UInt8} : mkB a = mkB b ↔ a = b := ⟨fun h => by
  have : (mkB a).data.toList = (mkB b).data.toList := by rw [h]
  exact this, fun h => by rw [h]⟩
theorem tx_no {ok : Bool} {l : List UInt8} (h : ok = false) : tx ok l = mkB [] := by unfold tx; rw [if_neg (by rw [h]; decide)]; rfl
theorem tx_yes {ok : Bool} {l : List UInt8} (h : ok = true) : tx ok l = mkB l := by unfold tx; rw [if_pos h]
theorem digits_len : ∀ (k u : Nat), u < 10 ^ (k + 1) → (Go.Lib.decDigits u).length ≤ k + 1
  | 0, u, h => by rw [Go.Lib.decDigits, dif_pos (by simpa using h)]; simp
  | k + 1, u, h => by
    rw [Go.Lib.decDigits]
    split
    · simp
    · have := digits_len k (u / 10) (by rw [Nat.pow_succ] at h; omega)
      simp; omega
theorem itoa_len {n : Int} (h : In64 n) : (itoa n).length ≤ 21 := by
  obtain ⟨h1, h2⟩ := h
  unfold itoa Go.Lib.itoa
  split
  · have := digits_len 19 n.natAbs (by omega)
    simp only [List.length_cons]; omega
  · have := digits_len 19 n.toNat (by omega)
    omega
theorem numOk_times : ∀ {nums : List Tm} {times : List Int} {p : Option Tm}, nums.length = times.length → numOk p nums times = true → ∀ n ∈ times, timeOk n = true
  | [], [], _, _, _, t, h => by cases h
  | [], _ :: _, _, hl, _, _, _ => by simp at hl
  | x :: nums, [], _, hl, _, _, _ => by simp at hl
  | x :: nums, n :: times, p, hl, h, t, ht => by
    simp only [numOk, Bool.and_eq_true] at h
    rcases List.mem_cons.1 ht with e | e
    · subst e; exact h.1.1.2
    · exact numOk_times (by simpa using hl) h.2 t e
theorem sum_facts {x : Atm} (h0 : ¬ x.1 = 1) (h : atomRight x = true) : x.2.2.2.1.length = x.2.2.2.2.1.length ∧ x.2.2.2.1.length ≤ 4 ∧ In64 x.2.2.2.2.2.1 ∧ ∀ n ∈ x.2.2.2.2.1, In64 n := by
  have e : sumRight x = true := by
    unfold atomRight at h
    split at h
    · exact h
    · rw [decide_eq_false h0] at h; cases h
  unfold sumRight at e
  rw [Bool.and_eq_true] at e
  obtain ⟨kind, a, b, nums, times, bound, strict⟩ := x
  have q := (head_iff kind a b nums times bound strict).1 e.1
  refine ⟨q.2.2.1, q.2.2.2.2.1, ⟨by dsimp only; omega, by dsimp only; omega⟩, fun n hn => ?_⟩
  have := timeOk_iff.1 (numOk_times q.2.2.1 e.2 n hn)
  exact ⟨by omega, by omega⟩
theorem numsB_step : ∀ {ts : List Tm} {ns : List Int} {k : Nat}, k < ts.length → k < ns.length → numsB (ts.take (k + 1)) (ns.take (k + 1)) = numsB (ts.take k) (ns.take k) ++ numB (ts.getD k dT) (ns.getD k 0)
  | [], _, _, h, _ => by simp at h
  | _ :: _, [], _, _, h => by simp at h
  | t :: ts, n :: ns, 0, _, _ => by simp [numsB]
  | t :: ts, n :: ns, k + 1, h1, h2 => by
    have := numsB_step (ts := ts) (ns := ns) (k := k) (by simpa using h1) (by simpa using h2)
    simp only [List.take_succ_cons, numsB, List.getD_cons_succ, this, List.append_assoc]
theorem numB_len {t : Tm} {n : Int} (h1 : SmT t) (h2 : In64 n) : (numB t n).length ≤ 2097175 := by
  have := textB_len t
  have := itoa_len h2
  have h1 : costT t ≤ 1048576 := h1
  unfold numB
  simp only [List.length_append, List.length_singleton]
  omega
theorem numsB_len : ∀ {ts : List Tm} {ns : List Int}, (∀ t ∈ ts, SmT t) → (∀ n ∈ ns, In64 n) → (numsB ts ns).length ≤ ts.length * 2097175
  | [], _, _, _ => by simp [numsB]
  | _ :: _, [], _, _ => by simp [numsB]
  | t :: ts, n :: ns, h1, h2 => by
    have h3 := numB_len (h1 t List.mem_cons_self) (h2 n List.mem_cons_self)
    have h4 := numsB_len (ts := ts) (ns := ns) (fun x hx => h1 x (List.mem_cons_of_mem _ hx)) fun x hx => h2 x (List.mem_cons_of_mem _ hx)
    simp only [numsB, List.length_append, List.length_cons, Nat.succ_mul]
    omega
theorem numsB_take {ts : List Tm} {ns : List Int} (h0 : ts.length ≤ 4) (h1 : ∀ t ∈ ts, SmT t) (h2 : ∀ n ∈ ns, In64 n) (k : Nat) : (numsB (ts.take k) (ns.take k)).length ≤ 8388700 := by
  have h := numsB_len (ts := ts.take k) (ns := ns.take k) (fun t h => h1 t (List.mem_of_mem_take h)) fun n h => h2 n (List.mem_of_mem_take h)
  have h3 : (ts.take k).length ≤ 4 := by simp; omega
  have := Nat.mul_le_mul_right 2097175 h3
  omega
theorem atomB_eq {x : Atm} (h : x.1 = 1) : atomB x = textB (.mk x.2.1.1 x.2.1.2) ++ [61] ++ textB (.mk x.2.2.1.1 x.2.2.1.2) := if_pos h
theorem atomB_sum {x : Atm} (h : ¬ x.1 = 1) : atomB x = numsB x.2.2.2.1 x.2.2.2.2.1 ++ (if x.2.2.2.2.2.2 = true then [60, 32] else [60, 61, 32]) ++ itoa x.2.2.2.2.2.1 := if_neg h
end Pl
namespace Cg
open Go Go.Proofs Pl
theorem Ext.grow (w : World) (k : Nat) (os : Array Obj) : Ext w (Go.Sort.grow (w.drewN k) os) := ⟨rfl, rfl, rfl, by show _ ≤ (w.heap ++ os).size; simp, fun b hb => by show (w.heap ++ os)[b]? = _; rw [Array.getElem?_append_left hb]⟩
theorem tab_pow {S : Nat → Prop} {w : World} (h : Gl S w) : Go.Lib.TabIs Tryz.prog w "internal/strconv.uint64pow10" .u64 Go.Lib.pow10Tab := by
  obtain ⟨h1, c, T, fr, h2, h3⟩ := h _ List.mem_cons_self
  unfold Go.Lib.TabIs World.var?
  rw [show Tryz.prog.globalNamed "internal/strconv.uint64pow10" = some 3 by kernel_rfl]
  have h2 : w.heap[(3 : Nat)]? = some (.cells c T fr) := h2
  have h3 : c = ((List.range 20).map fun i => Value.int .u64 ((10 ^ i : Nat) : Int)).toArray := h3
  simp only [Option.bind_some, h2, h3]
  unfold Go.Lib.pow10Tab
  rw [List.map_map]
  rfl
theorem k_Itoa : SoundC Tryz.prog K_Itoa.1 K_Itoa.2 := ⟨callable_of (by kernel_rfl), fun x hx S w vals hin hgl hrel => by
  obtain ⟨y0, r0, rfl, ha, hc⟩ := hrel
  cases hc
  have ha : y0 = .int .i64 x := ha
  subst ha
  exact (Tryz.strconv_Itoa x (Int.le_trans (by decide) hx.1) hx.2 w (tab_pow hgl)).mono fun e w' ⟨he, k, os, hw⟩ => by
    subst hw
    exact ⟨_, S, he, Ext.grow w k os, fun _ h => h, fun _ h => .inl h, fun b hb => Nat.lt_of_lt_of_le (hin b hb) (Ext.grow w k os).size, rfl⟩⟩
theorem digit_eq {m : Nat} (h : m < 10) : UInt8.ofNat (IntKind.u8.wrap (IntKind.i64.wrap (48 + (m : Int)))).toNat = UInt8.ofNat (48 + m) := by
  rw [wrap_small (by omega) (by omega)]
  congr 1
  have : IntKind.u8.wrap (48 + (m : Int)) = 48 + (m : Int) := by
    show (48 + (m : Int)) % 256 = _
    omega
  rw [this]; omega
theorem dec_step {m : Nat} (h : 9 < m) : itoa (m : Int) = itoa ((m / 10 : Nat) : Int) ++ [UInt8.ofNat (48 + m % 10)] := by
  unfold itoa Go.Lib.itoa
  rw [if_neg (by omega), if_neg (by omega)]
  show Go.Lib.decDigits m = Go.Lib.decDigits (m / 10) ++ _
  rw [Go.Lib.decDigits, dif_neg (by omega)]
theorem dec_last {m : Nat} (h : m < 10) : itoa (m : Int) = [UInt8.ofNat (48 + m)] := by
  unfold itoa Go.Lib.itoa
  rw [if_neg (by omega)]
  show Go.Lib.decDigits m = _
  rw [Go.Lib.decDigits, dif_pos h]
set_option maxHeartbeats 8000000 in
theorem g_l16Dec (n : Nat) (x : Int) (h1 : In64 x) (h2 : (if x < 0 then 1 else 0) < n + 1) : GoalW Tryz.prog [K_l16Dec n] (A_l16Dec x) (K_l16Dec (n + 1)).1 (K_l16Dec (n + 1)).2 x := GoalW.of (vc_l16Dec n x) (by
  simp (maxSteps := 2000000) [-List.getD_eq_getElem?_getD, -List.mem_cons, -Bool.forall_bool, -Bool.exists_bool, and_assoc, peta, tl_inj, ex_1, ex_2, ex_3, ex_4, ex_5, ex_6, ex_7, ex_8, ex_9, ey_2, ey_3, ey_4, ey_5, ey_6, ey_7, ey_8, ey_9]
  obtain ⟨b1, b2⟩ := h1
  refine ⟨fun hn => by omega, fun hn => ⟨fun h0 => ?_, fun h0 => ⟨⟨x.toNat, ⟨by omega, by omega⟩, h0, ?_, by omega⟩, fun a b ha _ he => ⟨fun h9 => ?_, fun h9 => ?_⟩⟩⟩⟩
  · have e : IntKind.i64.wrap (-x) = -x := wrap_small (by omega) (by omega)
    have i1 := itoa_len (n := -x) ⟨by omega, by omega⟩
    rw [e]
    rw [if_pos h0] at h2
    refine ⟨⟨by omega, by omega⟩, by rw [if_neg (by omega)]; omega, ?_, ?_⟩
    · show 1 + ((itoa (-x)).length : Int) ≤ _
      omega
    · rw [lit1, dec_eq, bapp]
      unfold dec itoa Go.Lib.itoa
      rw [if_pos h0, if_neg (by omega), show (-x).toNat = x.natAbs by omega]
      rfl
  · rw [lit0, dec_eq, dec_eq, bapp, List.append_nil, Int.toNat_of_nonneg h0]
  · have i1 := itoa_len (n := x) ⟨b1, b2⟩
    have hz : (dec x).size = (dec (a : Int)).size + b.size := by rw [he]; simp
    have hz : (itoa x).length = (itoa (a : Int)).length + b.size := hz
    rw [show ((a : Int)).tmod 10 = ((a % 10 : Nat) : Int) from rfl, digit_eq (Nat.mod_lt _ (by omega))]
    refine ⟨?_, a / 10, ⟨by omega, by have := ha.2; omega⟩, h0, ?_, by omega, ?_⟩
    · show (1 : Int) + b.size ≤ _
      omega
    · rw [he, dec_eq, dec_step (by omega), lit1, ← bapp, ByteArray.append_assoc]; rfl
    · rw [wrap_small (by have := ha.2; omega) (by have := ha.2; omega)]; rfl
  · have i1 := itoa_len (n := x) ⟨b1, b2⟩
    have hz : (dec x).size = (dec (a : Int)).size + b.size := by rw [he]; simp
    have hz : (itoa x).length = (itoa (a : Int)).length + b.size := hz
    rw [digit_eq (by omega)]
    refine ⟨?_, ?_⟩
    · show (1 : Int) + b.size ≤ _
      omega
    · rw [he, dec_eq, dec_last (by omega), lit1])
theorem k_l16Dec (n : Nat) : SoundC Tryz.prog (K_l16Dec n).1 (K_l16Dec n).2 := by
  induction n with
  | zero => exact sound_of hm CtxOK.nil (fun _ => []) (by kernel_rfl) fun x h => absurd h.2 (Nat.not_lt_zero _)
  | succ n ih => exact sound_ofW hm (CtxOK.nil.and (K := K_l16Dec n) ih) (fun (x : Int) => A_l16Dec x) (by kernel_rfl) fun (x : Int) hb => g_l16Dec n x hb.1 hb.2
theorem k_dec : SoundC Tryz.prog K_dec.1 K_dec.2 := SoundC.fam (fun (x : Int) => if x < 0 then 1 else 0) fun n => k_l16Dec n
set_option maxHeartbeats 8000000 in
theorem g_sign (x : Bool)  : GoalW Tryz.prog [] ([]) K_sign.1 K_sign.2 (x) := GoalW.of (vc_sign x) (by
  simp only [lit0, lit1, lit2, lit3, lit4, dec_eq, textT_eq, byteS_eq, bapp, mkB_size, mkB_inj]
  simp (maxSteps := 2000000) [-List.getD_eq_getElem?_getD, -List.mem_cons, -Bool.forall_bool, -Bool.exists_bool, and_assoc, peta, tl_inj, ex_1, ex_2, ex_3, ex_4, ex_5, ex_6, ex_7, ex_8, ex_9, ey_2, ey_3, ey_4, ey_5, ey_6, ey_7, ey_8, ey_9]
  exact ⟨fun h => by rw [h]; rfl, fun h => by rw [h]; rfl⟩)
theorem k_sign : SoundC Tryz.prog K_sign.1 K_sign.2 := sound_ofW hm CtxOK.nil (fun (x : Bool) => []) (by kernel_rfl) fun (x : Bool) hb => g_sign x 
set_option maxHeartbeats 8000000 in
theorem g_sAtomText (x : Pl.Atm) (h1 : SmA x) : GoalW Tryz.prog [K_l6Right, K_lText, K_dec] (A_sAtomText x) K_sAtomText.1 K_sAtomText.2 (x) := GoalW.of (vc_sAtomText x) (by
  simp only [lit0, lit1, lit2, lit3, lit4, dec_eq, textT_eq, byteS_eq, bapp, mkB_size, mkB_inj]
  simp (maxSteps := 2000000) [-List.getD_eq_getElem?_getD, -List.mem_cons, -Bool.forall_bool, -Bool.exists_bool, and_assoc, peta, tl_inj, ex_1, ex_2, ex_3, ex_4, ex_5, ex_6, ex_7, ex_8, ex_9, ey_2, ey_3, ey_4, ey_5, ey_6, ey_7, ey_8, ey_9]
  obtain ⟨q1, q2, q3, q4⟩ := SmA.parts h1
  have t1 := textB_len (.mk x.2.1.1 x.2.1.2)
  have t2 := textB_len (.mk x.2.2.1.1 x.2.2.1.2)
  have q1 : costT (.mk x.2.1.1 x.2.1.2) ≤ 1048576 := q1
  have q2 : costT (.mk x.2.2.1.1 x.2.2.1.2) ≤ 1048576 := q2
  refine ⟨h1, fun h => (tx_no h).symm, fun h2 => ?_⟩
  rw [tx_yes h2]
  simp only [mkB_inj]
  refine ⟨fun h0 => ⟨q1, by omega, q2, by omega, by rw [atomB_eq h0]; simp⟩, fun h0 => ?_⟩
  · have h0 : ¬ x.1 = 1 := h0
    obtain ⟨s1, s2, s3, s4⟩ := sum_facts h0 h2
    have i3 := itoa_len s3
    have t3 := fun k => numsB_take s2 (fun t => q3.mem) s4 k
    refine ⟨h0, h2, ⟨0, by omega, rfl, rfl⟩, fun k _ _ hk => ⟨fun hlt => ?_, fun hge => ?_⟩⟩
    · have t4 := t3 k
      have i4 := s4 _ (getD_mem 0 (l := x.2.2.2.2.1) (k := k) (by omega))
      have i5 := itoa_len i4
      have q5 : costT (x.2.2.2.1.getD k dT) ≤ 1048576 := q3.mem (getD_mem dT hlt)
      have t5 := textB_len (x.2.2.2.1.getD k dT)
      refine ⟨by omega, i4, by omega, by omega, hlt, q5, by omega, by omega, h0, h2, k + 1, hlt, by omega, ?_, wrap_small (by omega) (by omega)⟩
      rw [numsB_step hlt (by omega)]
      unfold numB
      simp
    · have t4 := t3 k
      refine ⟨fun hb => ⟨by omega, s3, by omega, ?_⟩, fun hb => ⟨by omega, s3, by omega, ?_⟩⟩
      · rw [atomB_sum h0, List.take_of_length_le hge, List.take_of_length_le (by omega), if_pos hb]; simp
      · rw [atomB_sum h0, List.take_of_length_le hge, List.take_of_length_le (by omega), if_neg (by rw [hb]; decide)]; simp)
theorem k_sAtomText : SoundC Tryz.prog K_sAtomText.1 K_sAtomText.2 := sound_ofW hm (((CtxOK.nil.and k_dec).and k_lText).and k_l6Right) (fun (x : Pl.Atm) => A_sAtomText x) (by kernel_rfl) fun (x : Pl.Atm) hb => g_sAtomText x hb
set_option maxHeartbeats 8000000 in
theorem g_atomText (x : Pl.Atm) (h1 : SmA x) (h2 : atomRight x = true) : GoalW Tryz.prog [K_tText, K_Itoa, K_sign] (A_atomText x) K_atomText.1 K_atomText.2 (x) := GoalW.of (vc_atomText x) (by
  simp only [lit0, lit1, lit2, lit3, lit4, dec_eq, textT_eq, byteS_eq, bapp, mkB_size, mkB_inj]
  simp (maxSteps := 2000000) [-List.getD_eq_getElem?_getD, -List.mem_cons, -Bool.forall_bool, -Bool.exists_bool, and_assoc, peta, tl_inj, ex_1, ex_2, ex_3, ex_4, ex_5, ex_6, ex_7, ex_8, ex_9, ey_2, ey_3, ey_4, ey_5, ey_6, ey_7, ey_8, ey_9]
  obtain ⟨q1, q2, q3, q4⟩ := SmA.parts h1
  have t1 := textB_len (.mk x.2.1.1 x.2.1.2)
  have t2 := textB_len (.mk x.2.2.1.1 x.2.2.1.2)
  have q1 : costT (.mk x.2.1.1 x.2.1.2) ≤ 1048576 := q1
  have q2 : costT (.mk x.2.2.1.1 x.2.2.1.2) ≤ 1048576 := q2
  refine ⟨fun h0 => ⟨q1, by omega, q2, by omega, by rw [atomB_eq h0]; simp⟩, fun h0 => ?_⟩
  · have h0 : ¬ x.1 = 1 := h0
    obtain ⟨s1, s2, s3, s4⟩ := sum_facts h0 h2
    have i3 := itoa_len s3
    have t3 := fun k => numsB_take s2 (fun t => q3.mem) s4 k
    have hsg : (signB x.2.2.2.2.2.2).length ≤ 2 := by unfold signB; split <;> simp
    refine ⟨h0, ⟨0, by omega, rfl, rfl⟩, fun k _ hk => ⟨fun hlt => ?_, fun hge => ?_⟩⟩
    · have t4 := t3 k
      have i4 := s4 _ (getD_mem 0 (l := x.2.2.2.2.1) (k := k) (by omega))
      have i5 := itoa_len i4
      have q5 : costT (x.2.2.2.1.getD k dT) ≤ 1048576 := q3.mem (getD_mem dT hlt)
      have t5 := textB_len (x.2.2.2.1.getD k dT)
      refine ⟨hlt, by omega, i4, by omega, q5, by omega, by omega, by omega, h0, k + 1, hlt, by omega, ?_, wrap_small (by omega) (by omega)⟩
      rw [numsB_step hlt (by omega)]
      unfold numB
      simp
    · have t4 := t3 k
      refine ⟨by omega, by omega, s3, by omega, ?_⟩
      rw [atomB_sum h0, List.take_of_length_le hge, List.take_of_length_le (by omega)]
      unfold signB
      split <;> simp_all)
theorem k_atomText : SoundC Tryz.prog K_atomText.1 K_atomText.2 := sound_ofW hm (((CtxOK.nil.and k_sign).and k_Itoa).and k_tText) (fun (x : Pl.Atm) => A_atomText x) (by kernel_rfl) fun (x : Pl.Atm) hb => g_atomText x hb.1 hb.2
end Cg

/-
  A text is one thing's: no two right atoms have one text. No condition.
-/
set_option linter.unusedVariables false
set_option linter.unusedSimpArgs false
namespace Pl
open Go Cg
/-- Does a list open with a byte of a kind? -/
def opens (p : UInt8 → Bool) : List UInt8 → Bool
  | [] => false
  | c :: _ => p c
def dig (c : UInt8) : Bool := decide (48 ≤ c.toNat) && decide (c.toNat ≤ 57)
theorem split_all {p : UInt8 → Bool} : ∀ {a b r s : List UInt8}, a.all p = true → b.all p = true → opens p r = false → opens p s = false → a ++ r = b ++ s → a = b ∧ r = s
  | [], [], r, s, _, _, _, _, h => ⟨rfl, h⟩
  | [], y :: b, r, s, _, hb, hr, _, h => by
    simp only [List.nil_append, List.cons_append] at h
    subst h
    simp only [List.all_cons, Bool.and_eq_true] at hb
    simp [opens, hb.1] at hr
  | x :: a, [], r, s, ha, _, _, hs, h => by
    simp only [List.nil_append, List.cons_append] at h
    subst h
    simp only [List.all_cons, Bool.and_eq_true] at ha
    simp [opens, ha.1] at hs
  | x :: a, y :: b, r, s, ha, hb, hr, hs, h => by
    simp only [List.cons_append, List.cons.injEq] at h
    simp only [List.all_cons, Bool.and_eq_true] at ha hb
    obtain ⟨h1, h2⟩ := split_all ha.2 hb.2 hr hs h.2
    exact ⟨by rw [h.1, h1], h2⟩
theorem dig_of (d : Nat) (h : d < 10) : dig (UInt8.ofNat (48 + d)) = true := by
  have : d = 0 ∨ d = 1 ∨ d = 2 ∨ d = 3 ∨ d = 4 ∨ d = 5 ∨ d = 6 ∨ d = 7 ∨ d = 8 ∨ d = 9 := by omega
  rcases this with e | e | e | e | e | e | e | e | e | e <;> subst e <;> rfl
theorem dec_dig : ∀ (u : Nat), (Go.Lib.decDigits u).all dig = true := fun u => by
  induction u using Nat.strongRecOn with
  | ind u ih =>
    rw [Go.Lib.decDigits]
    split
    · rename_i h
      rw [List.all_cons, dig_of u h]; rfl
    · rename_i h
      rw [List.all_append, ih (u / 10) (by omega)]
      rw [List.all_cons, dig_of (u % 10) (Nat.mod_lt _ (by omega))]; rfl
def val (l : List UInt8) : Nat := l.foldl (fun a c => a * 10 + (c.toNat - 48)) 0
theorem val_dec (u : Nat) : val (Go.Lib.decDigits u) = u := by
  induction u using Nat.strongRecOn with
  | ind u ih =>
    rw [Go.Lib.decDigits]
    split
    · rename_i h
      show 0 * 10 + ((UInt8.ofNat (48 + u)).toNat - 48) = u
      have : (UInt8.ofNat (48 + u)).toNat = 48 + u := by rw [UInt8.toNat_ofNat']; omega
      rw [this]; omega
    · rename_i h
      unfold val
      rw [List.foldl_append]
      show (val (Go.Lib.decDigits (u / 10))) * 10 + ((UInt8.ofNat (48 + u % 10)).toNat - 48) = u
      have : (UInt8.ofNat (48 + u % 10)).toNat = 48 + u % 10 := by rw [UInt8.toNat_ofNat']; omega
      rw [ih (u / 10) (by omega), this]; omega
theorem dec_ne (u : Nat) : Go.Lib.decDigits u ≠ [] := by
  rw [Go.Lib.decDigits]
  split <;> simp
theorem dec_open (u : Nat) (r : List UInt8) : opens dig (Go.Lib.decDigits u ++ r) = true := by
  have h := dec_dig u
  cases e : Go.Lib.decDigits u with
  | nil => exact absurd e (dec_ne u)
  | cons c l => rw [e] at h; simp only [List.all_cons, Bool.and_eq_true] at h; exact h.1
theorem itoa_split {n m : Int} {r s : List UInt8} (hr : opens dig r = false) (hs : opens dig s = false) (h : itoa n ++ r = itoa m ++ s) : n = m ∧ r = s := by
  unfold itoa Go.Lib.itoa at h
  by_cases h1 : n < 0 <;> by_cases h2 : m < 0
  · rw [if_pos h1, if_pos h2] at h
    simp only [List.cons_append, List.cons.injEq, true_and] at h
    obtain ⟨e1, e2⟩ := split_all (dec_dig _) (dec_dig _) hr hs h
    have := congrArg val e1
    rw [val_dec, val_dec] at this
    exact ⟨by omega, e2⟩
  · rw [if_pos h1, if_neg h2] at h
    have := dec_open m.toNat s
    rw [← h] at this
    simp [opens, dig] at this
  · rw [if_neg h1, if_pos h2] at h
    have := dec_open n.toNat r
    rw [h] at this
    simp [opens, dig] at this
  · rw [if_neg h1, if_neg h2] at h
    obtain ⟨e1, e2⟩ := split_all (dec_dig _) (dec_dig _) hr hs h
    have := congrArg val e1
    rw [val_dec, val_dec] at this
    exact ⟨by omega, e2⟩
theorem itoa_head (n : Int) (r : List UInt8) : opens (fun c => dig c || decide (c = 45)) (itoa n ++ r) = true := by
  unfold itoa Go.Lib.itoa
  split
  · rfl
  · have := dec_open n.toNat r
    cases e : Go.Lib.decDigits n.toNat ++ r with
    | nil => rw [e] at this; cases this
    | cons c l => rw [e] at this; simp only [opens] at this ⊢; rw [this]; rfl
mutual
/-- Is every word of a term a name? -/
def named : Tm → Bool
  | .mk v ks => nameOk v && nameds ks
def nameds : List Tm → Bool
  | [] => true
  | t :: ts => named t && nameds ts
end
/-- What may stand behind a term. -/
def tail (r : List UInt8) : Bool := !opens lower r && !opens (fun c => decide (c = 40)) r
theorem tail_lower {r : List UInt8} (h : tail r = true) : opens lower r = false := by simp only [tail, Bool.and_eq_true, Bool.not_eq_true'] at h; exact h.1
theorem tail_open {r s : List UInt8} (h : tail r = true) : r ≠ 40 :: s := fun e => by subst e; cases h
theorem textB_open (v : ByteArray) (ks : List Tm) (r : List UInt8) : textB (.mk v ks) ++ r = bl' v ++ (if ks = [] then r else 40 :: (interL [44] (textBs ks) ++ 41 :: r)) := by
  rw [textB]
  cases ks with
  | nil => simp
  | cons k ks => simp
theorem name_lower {v : ByteArray} (h : nameOk v = true) : (bl' v).all lower = true := by
  simp only [nameOk, Bool.and_eq_true] at h; exact h.2
mutual
theorem text_split : ∀ (t u : Tm) (r s : List UInt8), named t = true → named u = true → tail r = true → tail s = true → textB t ++ r = textB u ++ s → t = u ∧ r = s
  | .mk v ks, .mk v' ks', r, s, ht, hu, hr, hs, h => by
    simp only [named, Bool.and_eq_true] at ht hu
    rw [textB_open, textB_open] at h
    have o : ∀ (ks : List Tm) (r : List UInt8), tail r = true → opens lower (if ks = [] then r else 40 :: (interL [44] (textBs ks) ++ 41 :: r)) = false := fun ks r hr => by
      split
      · exact tail_lower hr
      · rfl
    obtain ⟨e1, e2⟩ := split_all (name_lower ht.1) (name_lower hu.1) (o ks r hr) (o ks' s hs) h
    have e1 : v = v' := mkB_inj.2 e1
    subst e1
    by_cases h1 : ks = [] <;> by_cases h2 : ks' = []
    · rw [if_pos h1, if_pos h2] at e2; exact ⟨by rw [h1, h2], e2⟩
    · rw [if_pos h1, if_neg h2] at e2; exact absurd e2 (tail_open hr)
    · rw [if_neg h1, if_pos h2] at e2; exact absurd e2.symm (tail_open hs)
    · rw [if_neg h1, if_neg h2] at e2
      simp only [List.cons.injEq, true_and] at e2
      obtain ⟨e3, e4⟩ := texts_split ks ks' r s h1 h2 ht.2 hu.2 e2
      exact ⟨by rw [e3], e4⟩
theorem texts_split : ∀ (ts us : List Tm) (r s : List UInt8), ts ≠ [] → us ≠ [] → nameds ts = true → nameds us = true → interL [44] (textBs ts) ++ 41 :: r = interL [44] (textBs us) ++ 41 :: s → ts = us ∧ r = s
  | [], _, _, _, h, _, _, _, _ => absurd rfl h
  | [t], us, r, s, _, hu, h1, h2, h => by
    simp only [nameds, Bool.and_eq_true, Bool.and_true] at h1
    cases us with
    | nil => exact absurd rfl hu
    | cons u us =>
      simp only [nameds, Bool.and_eq_true] at h2
      cases us with
      | nil =>
        obtain ⟨e1, e2⟩ := text_split t u (41 :: r) (41 :: s) h1 h2.1 rfl rfl h
        simp only [List.cons.injEq, true_and] at e2
        exact ⟨by rw [e1], e2⟩
      | cons u2 us =>
        simp only [textBs, interL, List.append_assoc] at h
        obtain ⟨e1, e2⟩ := text_split t u (41 :: r) _ h1 h2.1 rfl rfl h
        simp at e2
  | t :: t2 :: ts, us, r, s, _, hu, h1, h2, h => by
    rw [nameds, Bool.and_eq_true] at h1
    cases us with
    | nil => exact absurd rfl hu
    | cons u us =>
      rw [nameds, Bool.and_eq_true] at h2
      cases us with
      | nil =>
        simp only [textBs, interL, List.append_assoc] at h
        obtain ⟨e1, e2⟩ := text_split t u _ (41 :: s) h1.1 h2.1 rfl rfl h
        simp at e2
      | cons u2 us =>
        have h' : textB t ++ (44 :: (interL [44] (textBs (t2 :: ts)) ++ 41 :: r)) = textB u ++ (44 :: (interL [44] (textBs (u2 :: us)) ++ 41 :: s)) := by
          simpa [textBs, interL] using h
        obtain ⟨e1, e2⟩ := text_split t u _ _ h1.1 h2.1 rfl rfl h'
        simp only [List.cons.injEq, true_and] at e2
        obtain ⟨e3, e4⟩ := texts_split (t2 :: ts) (u2 :: us) r s (by simp) (by simp) h1.2 h2.2 e2
        exact ⟨by rw [e1, e3], e4⟩
end
theorem shape_named : ∀ (n : Nat) (t : Tm), shape n t = true → named t = true
  | 0, _, h => by cases h
  | n + 1, .mk v ks, h => by
    simp only [shape, Bool.and_eq_true, List.all_eq_true] at h
    have hk : ∀ l : List Tm, (∀ t ∈ l, shape n t = true) → nameds l = true := fun l hl => by
      induction l with
      | nil => rfl
      | cons t ts ih =>
        rw [nameds, shape_named n t (hl t List.mem_cons_self), ih fun x hx => hl x (List.mem_cons_of_mem _ hx)]; rfl
    rw [named, Bool.and_eq_true]
    exact ⟨h.1.1, hk ks h.2⟩
theorem right_named {t : Tm} (h : right t = true) : named t = true := by
  unfold right at h
  rw [Bool.and_eq_true] at h
  exact shape_named 4 t h.1
theorem text_inj {t u : Tm} (ht : right t = true) (hu : right u = true) (h : textB t = textB u) : t = u := by
  have h : textB t ++ [] = textB u ++ [] := by rw [h]
  exact (text_split t u [] [] (right_named ht) (right_named hu) rfl rfl h).1
theorem text_head {t : Tm} (h : named t = true) (r : List UInt8) : opens lower (textB t ++ r) = true := by
  obtain ⟨v, ks⟩ := t
  simp only [named, Bool.and_eq_true] at h
  rw [textB_open]
  have h1 := name_lower h.1
  have h2 : 1 ≤ v.size := by have := h.1; simp only [nameOk, Bool.and_eq_true, decide_eq_true_eq] at this; exact this.1.1
  cases e : bl' v with
  | nil =>
    have : (bl' v).length = v.size := rfl
    rw [e] at this; simp at this; omega
  | cons c l => rw [e] at h1; simp only [List.all_cons, Bool.and_eq_true] at h1; exact h1.1
theorem low_dig {c : UInt8} {l : List UInt8} (h1 : opens lower (c :: l) = true) (h2 : opens (fun c => dig c || decide (c = 45)) (c :: l) = true) : False := by
  simp only [opens, lower, dig, Bool.not_eq_true', Bool.or_eq_false_iff, Bool.or_eq_true, Bool.and_eq_true, decide_eq_true_eq, decide_eq_false_iff_not] at h1 h2
  rcases h2 with h2 | h2
  · omega
  · subst h2; exact absurd h1.1 (by decide)
theorem nums_split : ∀ {ts us : List Tm} {ns ms : List Int} {r s : List UInt8}, (∀ t ∈ ts, named t = true) → (∀ t ∈ us, named t = true) → ts.length = ns.length → us.length = ms.length →
    opens (fun c => decide (c = 60)) r = true → opens (fun c => decide (c = 60)) s = true → numsB ts ns ++ r = numsB us ms ++ s → ts = us ∧ ns = ms ∧ r = s
  | [], [], [], [], r, s, _, _, _, _, _, _, h => ⟨rfl, rfl, h⟩
  | t :: ts, us, [], ms, r, s, _, _, h, _, _, _, _ => by simp at h
  | [], us, n :: ns, ms, r, s, _, _, h, _, _, _, _ => by simp at h
  | ts, u :: us, ns, [], r, s, _, _, _, h, _, _, _ => by simp at h
  | ts, [], ns, m :: ms, r, s, _, _, _, h, _, _, _ => by simp at h
  | t :: ts, [], n :: ns, [], r, s, _, _, _, _, hr, hs, h => by
    have e : itoa n ++ ([42] ++ textB t ++ [32] ++ numsB ts ns ++ r) = s := by simpa [numsB, numB] using h
    have := itoa_head n ([42] ++ textB t ++ [32] ++ numsB ts ns ++ r)
    rw [e] at this
    cases s with
    | nil => cases hs
    | cons c l =>
      have hc : c = 60 := by simpa [opens] using hs
      subst hc; cases this
  | [], u :: us, [], m :: ms, r, s, _, _, _, _, hr, hs, h => by
    have e : r = itoa m ++ ([42] ++ textB u ++ [32] ++ numsB us ms ++ s) := by simpa [numsB, numB] using h
    have := itoa_head m ([42] ++ textB u ++ [32] ++ numsB us ms ++ s)
    rw [← e] at this
    cases r with
    | nil => cases hr
    | cons c l =>
      have hc : c = 60 := by simpa [opens] using hr
      subst hc; cases this
  | t :: ts, u :: us, n :: ns, m :: ms, r, s, ht, hu, h1, h2, hr, hs, h => by
    have h' : itoa n ++ (42 :: (textB t ++ (32 :: (numsB ts ns ++ r)))) = itoa m ++ (42 :: (textB u ++ (32 :: (numsB us ms ++ s)))) := by simpa [numsB, numB] using h
    obtain ⟨e1, e2⟩ := itoa_split rfl rfl h'
    simp only [List.cons.injEq, true_and] at e2
    obtain ⟨e3, e4⟩ := text_split t u _ _ (ht t List.mem_cons_self) (hu u List.mem_cons_self) rfl rfl e2
    simp only [List.cons.injEq, true_and] at e4
    obtain ⟨e5, e6, e7⟩ := nums_split (fun x hx => ht x (List.mem_cons_of_mem _ hx)) (fun x hx => hu x (List.mem_cons_of_mem _ hx)) (by simpa using h1) (by simpa using h2) hr hs e4
    exact ⟨by rw [e3, e5], by rw [e1, e6], e7⟩
theorem noneT_eq {x : TP} (h : noneT x = true) : x = (ByteArray.empty, []) := by
  simp only [noneT, Bool.and_eq_true, decide_eq_true_eq] at h
  exact Prod.ext h.1 h.2
theorem atomB_inj {x y : Atm} (hx : atomRight x = true) (hy : atomRight y = true) (h : atomB x = atomB y) : x = y := by
  obtain ⟨k, ⟨a, as_⟩, ⟨b, bs_⟩, ts, ns, bd, sc⟩ := x
  obtain ⟨k', ⟨a', as'⟩, ⟨b', bs'⟩, ts', ns', bd', sc'⟩ := y
  have rx := right_eq hx
  have ry := right_eq hy
  have two : ∀ {k : Int} {a b : TP} {ts : List Tm} {ns : List Int} {bd : Int} {sc : Bool}, ¬ k = 1 → atomRight (k, a, b, ts, ns, bd, sc) = true → k = 2 ∧ noneT a = true ∧ noneT b = true ∧ ts.length = ns.length ∧ 1 ≤ ts.length := by
    intro k a b ts ns bd sc h1 h2
    unfold atomRight at h2
    split at h2
    · rename_i hk
      simp only [sumRight, Bool.and_eq_true] at h2
      have q := (head_iff k a b ts ns bd sc).1 h2.1
      exact ⟨hk, q.1, q.2.1, q.2.2.1, q.2.2.2.1⟩
    · rw [Bool.and_eq_true] at h2
      exact absurd (by simpa using h2.1) h1
  have one : ∀ {k : Int} {a b : TP} {ts : List Tm} {ns : List Int} {bd : Int} {sc : Bool}, k = 1 → atomRight (k, a, b, ts, ns, bd, sc) = true → ts = [] ∧ ns = [] ∧ bd = 0 ∧ sc = false := by
    intro k a b ts ns bd sc h1 h2
    subst h1
    simp only [atomRight, eqRight, Bool.and_eq_true, decide_eq_true_eq, Bool.not_eq_true'] at h2
    rw [if_neg (by decide)] at h2
    simp only [Bool.and_eq_true, decide_eq_true_eq, Bool.not_eq_true'] at h2
    exact ⟨h2.2.1.1.1.2, h2.2.1.1.2, h2.2.1.2, h2.2.2⟩
  by_cases h1 : k = 1 <;> by_cases h2 : k' = 1
  · rw [atomB_eq h1, atomB_eq h2] at h
    obtain ⟨p1, p2, p3, p4⟩ := one h1 hx
    obtain ⟨q1, q2, q3, q4⟩ := one h2 hy
    obtain ⟨u1, u2⟩ := rx.1 h1
    obtain ⟨v1, v2⟩ := ry.1 h2
    have h : textB (.mk a as_) ++ (61 :: textB (.mk b bs_)) = textB (.mk a' as') ++ (61 :: textB (.mk b' bs')) := by simpa using h
    obtain ⟨e1, e2⟩ := text_split _ _ _ _ (right_named u1) (right_named v1) rfl rfl h
    simp only [List.cons.injEq, true_and] at e2
    have e3 := text_inj u2 v2 e2
    cases e1; cases e3
    subst p1; subst p2; subst p3; subst p4; subst q1; subst q2; subst q3; subst q4; subst h1; subst h2
    rfl
  · exfalso
    rw [atomB_eq h1, atomB_sum h2] at h
    obtain ⟨_, _, _, q4, q5⟩ := two h2 hy
    have := text_head (right_named (rx.1 h1).1) ([61] ++ textB (.mk b bs_))
    dsimp only at h
    rw [← List.append_assoc, h] at this
    cases ts' with
    | nil => simp at q5
    | cons t l => cases ns' with
      | nil => simp at q4
      | cons n m =>
        have hh := itoa_head n ([42] ++ textB t ++ [32] ++ (numsB l m ++ ((if sc' = true then [60, 32] else [60, 61, 32]) ++ itoa bd')))
        have e : itoa n ++ ([42] ++ textB t ++ [32] ++ (numsB l m ++ ((if sc' = true then [60, 32] else [60, 61, 32]) ++ itoa bd'))) = numsB (t :: l) (n :: m) ++ (if sc' = true then [60, 32] else [60, 61, 32]) ++ itoa bd' := by simp [numsB, numB]
        rw [e] at hh
        revert this hh
        cases numsB (t :: l) (n :: m) ++ (if sc' = true then [60, 32] else [60, 61, 32]) ++ itoa bd' with
        | nil => intro h; cases h
        | cons c r => exact fun h1 h2 => low_dig h1 h2
  · exfalso
    rw [atomB_sum h1, atomB_eq h2] at h
    obtain ⟨_, _, _, q4, q5⟩ := two h1 hx
    have := text_head (right_named (ry.1 h2).1) ([61] ++ textB (.mk b' bs'))
    dsimp only at h
    rw [← List.append_assoc, ← h] at this
    cases ts with
    | nil => simp at q5
    | cons t l => cases ns with
      | nil => simp at q4
      | cons n m =>
        have hh := itoa_head n ([42] ++ textB t ++ [32] ++ (numsB l m ++ ((if sc = true then [60, 32] else [60, 61, 32]) ++ itoa bd)))
        have e : itoa n ++ ([42] ++ textB t ++ [32] ++ (numsB l m ++ ((if sc = true then [60, 32] else [60, 61, 32]) ++ itoa bd))) = numsB (t :: l) (n :: m) ++ (if sc = true then [60, 32] else [60, 61, 32]) ++ itoa bd := by simp [numsB, numB]
        rw [e] at hh
        revert this hh
        cases numsB (t :: l) (n :: m) ++ (if sc = true then [60, 32] else [60, 61, 32]) ++ itoa bd with
        | nil => intro h; cases h
        | cons c r => exact fun h1 h2 => low_dig h1 h2
  · rw [atomB_sum h1, atomB_sum h2] at h
    obtain ⟨p1, p2, p3, p4, p5⟩ := two h1 hx
    obtain ⟨q1, q2, q3, q4, q5⟩ := two h2 hy
    dsimp only at h
    rw [List.append_assoc, List.append_assoc] at h
    have o : ∀ (sc : Bool) (r : List UInt8), opens (fun c => decide (c = 60)) ((if sc = true then [60, 32] else [60, 61, 32]) ++ r) = true := fun sc r => by cases sc <;> rfl
    obtain ⟨e1, e2, e3⟩ := nums_split (fun t ht => right_named (rx.2 h1 t ht)) (fun t ht => right_named (ry.2 h2 t ht)) p4 q4 (o sc _) (o sc' _) h
    have e4 : sc = sc' ∧ itoa bd = itoa bd' := by
      cases sc <;> cases sc'
      · refine ⟨rfl, ?_⟩; simpa using e3
      · simp at e3
      · simp at e3
      · refine ⟨rfl, ?_⟩; simpa using e3
    have e5 : itoa bd ++ [] = itoa bd' ++ [] := by rw [e4.2]
    have e6 := (itoa_split rfl rfl e5).1
    have p2 := noneT_eq p2
    have p3 := noneT_eq p3
    have q2 := noneT_eq q2
    have q3 := noneT_eq q3
    rw [p1, q1, p2, p3, q2, q3, e1, e2, e4.1, e6]
/-- What a reader hands back: the right thing with the text, if there is one. -/
noncomputable def rd {α : Type} (R : α → Bool) (T : α → List UInt8) (z : α) (s : List UInt8) : α × Bool := by
  classical exact if h : ∃ a, R a = true ∧ T a = s then (Classical.choose h, true) else (z, false)
section
variable {α : Type} {R : α → Bool} {T : α → List UInt8} {z : α} {s : List UInt8}
theorem rd_yes (inj : ∀ {a b : α}, R a = true → R b = true → T a = T b → a = b) {a : α} (h1 : R a = true) (h2 : T a = s) : rd R T z s = (a, true) := by
  unfold rd
  have h : ∃ a, R a = true ∧ T a = s := ⟨a, h1, h2⟩
  rw [dif_pos h]
  have q := Classical.choose_spec h
  rw [inj q.1 h1 (q.2.trans h2.symm)]
theorem rd_no (h : ∀ a, R a = true → ¬ T a = s) : rd R T z s = (z, false) := by
  unfold rd
  rw [dif_neg fun ⟨a, h1, h2⟩ => h a h1 h2]
theorem rd_ok (h : (rd R T z s).2 = true) : R (rd R T z s).1 = true ∧ T (rd R T z s).1 = s := by
  by_cases he : ∃ a, R a = true ∧ T a = s
  · have q := Classical.choose_spec he
    unfold rd
    rw [dif_pos he]
    exact q
  · unfold rd at h
    rw [dif_neg he] at h
    cases h
end
end Pl

/-
  Plain laws: texts that are read: pieces, numerals. No condition.
-/
set_option linter.unusedVariables false
set_option linter.unusedSimpArgs false
namespace Pl
open Go Cg
theorem take_snoc {α : Type} (d : α) {l : List α} {i : Nat} (h : i < l.length) : l.take (i + 1) = l.take i ++ [l.getD i d] := by
  rw [List.take_add_one]
  simp [h]
theorem cutL_ne (c : UInt8) : ∀ l : List UInt8, cutL c l ≠ []
  | [] => by simp [cutL]
  | x :: r => by
    unfold cutL
    split
    · simp
    · split <;> simp
theorem cutL_cons {c x : UInt8} (h : x ≠ c) (r : List UInt8) : ∃ p ps, cutL c r = p :: ps ∧ cutL c (x :: r) = (x :: p) :: ps := by
  cases hr : cutL c r with
  | nil => exact absurd hr (cutL_ne c r)
  | cons p ps => exact ⟨p, ps, rfl, by rw [cutL, if_neg h, hr]⟩
theorem cutL_no {c : UInt8} : ∀ {a : List UInt8}, (∀ x ∈ a, x ≠ c) → cutL c a = [a]
  | [], _ => rfl
  | x :: a, h => by
    obtain ⟨p, ps, e1, e2⟩ := cutL_cons (h x List.mem_cons_self) a
    rw [cutL_no fun y hy => h y (List.mem_cons_of_mem _ hy)] at e1
    cases e1
    exact e2
theorem cutL_app {c : UInt8} : ∀ {a : List UInt8} (b : List UInt8), (∀ x ∈ a, x ≠ c) → cutL c (a ++ c :: b) = a :: cutL c b
  | [], b, _ => by simp [cutL]
  | x :: a, b, h => by
    obtain ⟨p, ps, e1, e2⟩ := cutL_cons (h x List.mem_cons_self) (a ++ c :: b)
    rw [cutL_app b fun y hy => h y (List.mem_cons_of_mem _ hy)] at e1
    cases e1
    exact e2
theorem cutL_len (c : UInt8) : ∀ l : List UInt8, (cutL c l).length ≤ l.length + 1
  | [] => by simp [cutL]
  | x :: r => by
    have ih := cutL_len c r
    by_cases h : x = c
    · rw [cutL, if_pos h]; simp only [List.length_cons]; omega
    · obtain ⟨p, ps, e1, e2⟩ := cutL_cons h r
      rw [e2]; rw [e1] at ih; simp only [List.length_cons] at ih ⊢; omega
/-- No piece is longer than the text. -/
theorem cutL_le (c : UInt8) : ∀ (l : List UInt8), ∀ p ∈ cutL c l, p.length ≤ l.length
  | [], p, h => by simp [cutL] at h; subst h; simp
  | x :: r, p, h => by
    by_cases hx : x = c
    · rw [cutL, if_pos hx] at h
      rcases List.mem_cons.1 h with rfl | h
      · simp
      · have := cutL_le c r p h; simp only [List.length_cons]; omega
    · obtain ⟨q, qs, e1, e2⟩ := cutL_cons hx r
      rw [e2] at h
      rcases List.mem_cons.1 h with rfl | h
      · have := cutL_le c r q (by rw [e1]; exact List.mem_cons_self); simp only [List.length_cons]; omega
      · have := cutL_le c r p (by rw [e1]; exact List.mem_cons_of_mem _ h); simp only [List.length_cons]; omega
theorem cut_le {c : UInt8} {s p : ByteArray} (h : p ∈ cut c s) : p.size ≤ s.size := by
  obtain ⟨q, hq, rfl⟩ := List.mem_map.1 h
  exact cutL_le c _ q hq
theorem cut_len (c : UInt8) (s : ByteArray) : (cut c s).length ≤ s.size + 1 := by
  unfold cut; rw [List.length_map]; exact cutL_len c (bl' s)
theorem cut_ne (c : UInt8) (s : ByteArray) : 0 < (cut c s).length := by
  unfold cut; rw [List.length_map]
  exact List.length_pos_iff.2 (cutL_ne c _)
theorem vl_val (l : List UInt8) : vl l = val l := rfl
theorem vl_snoc (l : List UInt8) (c : UInt8) : vl (l ++ [c]) = vl l * 10 + (c.toNat - 48) := by unfold vl; rw [List.foldl_append]; rfl
theorem vl_lt' : ∀ (l : List UInt8) (a : Nat), l.all isDig = true → l.foldl (fun a c => a * 10 + (c.toNat - 48)) a + 1 ≤ (a + 1) * 10 ^ l.length
  | [], a, _ => by simp
  | c :: r, a, h => by
    simp only [List.all_cons, Bool.and_eq_true] at h
    have hc := h.1
    simp only [isDig, Bool.and_eq_true, decide_eq_true_eq] at hc
    have ih := vl_lt' r (a * 10 + (c.toNat - 48)) h.2
    rw [List.foldl_cons, List.length_cons, Nat.pow_succ]
    refine Nat.le_trans ih ?_
    rw [Nat.mul_comm (10 ^ r.length) 10, ← Nat.mul_assoc]
    exact Nat.mul_le_mul_right _ (by omega)
theorem vl_lt (l : List UInt8) (h : l.all isDig = true) : vl l < 10 ^ l.length := by
  have := vl_lt' l 0 h
  unfold vl
  omega
/-- A number's digits are few. -/
theorem dec_len : ∀ (k u : Nat), 0 < k → u < 10 ^ k → (Go.Lib.decDigits u).length ≤ k
  | 0, u, h, _ => absurd h (Nat.lt_irrefl _)
  | k + 1, u, _, h => by
    rw [Go.Lib.decDigits]
    split
    · simp
    · rename_i hu
      have hk : 0 < k := by
        cases k with
        | zero => simp at h; omega
        | succ k => exact Nat.succ_pos k
      have := dec_len k (u / 10) hk (by rw [Nat.pow_succ] at h; omega)
      simp only [List.length_append, List.length_cons, List.length_nil]; omega
/-- No number but 0 begins with the digit 0. -/
theorem dec_first (u : Nat) : (Go.Lib.decDigits u).getD 0 0 = 48 → u = 0 := by
  induction u using Nat.strongRecOn with
  | ind u ih =>
    rw [Go.Lib.decDigits]
    split
    · rename_i h
      intro e
      have e : UInt8.ofNat (48 + u) = 48 := e
      have := congrArg UInt8.toNat e
      rw [UInt8.toNat_ofNat'] at this
      have h48 : (48 : UInt8).toNat = 48 := rfl
      rw [h48] at this
      omega
    · rename_i h
      intro e
      have hne := dec_ne (u / 10)
      have e' : (Go.Lib.decDigits (u / 10)).getD 0 0 = 48 := by
        cases hd : Go.Lib.decDigits (u / 10) with
        | nil => exact absurd hd hne
        | cons c l => rw [hd] at e; exact e
      have := ih (u / 10) (by omega) e'
      omega
theorem dec_zero : Go.Lib.decDigits 0 = [48] := by rw [Go.Lib.decDigits]; rfl
theorem numD_dec {u : Nat} {neg : Bool} (h : u < 10 ^ 17) (hn : neg = true → u ≠ 0) : numD neg (Go.Lib.decDigits u) = (if neg = true then -(u : Int) else u, true) := by
  unfold numD
  have h1 := dec_len 17 u (by omega) h
  have h2 : (Go.Lib.decDigits u).length ≠ 0 := fun e => dec_ne u (List.length_eq_zero_iff.1 e)
  rw [if_neg, if_pos (by have := dec_dig u; exact this)]
  · rw [vl_val, val_dec]
  · rintro (h' | h' | ⟨h3, h4⟩)
    · exact h2 h'
    · omega
    · have hz := dec_first u h3
      subst hz
      rcases h4 with h4 | h4
      · rw [dec_zero] at h4; simp at h4
      · exact hn h4 rfl
theorem dec_head (u : Nat) : (Go.Lib.decDigits u).getD 0 0 ≠ 45 := fun e => by
  have h := dec_open u []
  rw [List.append_nil] at h
  cases hd : Go.Lib.decDigits u with
  | nil => exact dec_ne u hd
  | cons c l => rw [hd] at e h; have e : c = 45 := e; subst e; cases h
theorem numL_itoa {n : Int} (h1 : -100000000000000000 < n) (h2 : n < 100000000000000000) : numL (itoa n) = (n, true) := by
  unfold itoa Go.Lib.itoa numL
  by_cases h : n < 0
  · rw [if_pos h, if_pos ⟨by simp, rfl⟩]
    show numD true (Go.Lib.decDigits n.natAbs) = _
    rw [numD_dec (by have : (10 : Nat) ^ 17 = 100000000000000000 := by decide
                     rw [this]; omega) (fun _ => by omega), if_pos rfl]
    refine Prod.ext ?_ rfl
    show -((n.natAbs : Nat) : Int) = n
    omega
  · rw [if_neg h, if_neg fun e => dec_head _ e.2]
    rw [numD_dec (by have : (10 : Nat) ^ 17 = 100000000000000000 := by decide
                     rw [this]; omega) (fun e => by cases e), if_neg (by simp)]
    refine Prod.ext ?_ rfl
    show ((n.toNat : Nat) : Int) = n
    omega
theorem parse_digs : ∀ (l : List UInt8) (acc : Nat), l.all isDig = true → l.foldl (fun a c => a * 10 + (c.toNat - 48)) acc < 9223372036854775809 → Go.Lib.parseUint10 acc l = .ok (l.foldl (fun a c => a * 10 + (c.toNat - 48)) acc)
  | [], acc, _, _ => rfl
  | c :: r, acc, h, hb => by
    simp only [List.all_cons, Bool.and_eq_true] at h
    have hc := h.1
    simp only [isDig, Bool.and_eq_true, decide_eq_true_eq] at hc
    have mono : ∀ (l : List UInt8) (a : Nat), a ≤ l.foldl (fun a c => a * 10 + (c.toNat - 48)) a := fun l => by
      induction l with
      | nil => intro a; exact Nat.le_refl _
      | cons x l ih => intro a; exact Nat.le_trans (show a ≤ a * 10 + (x.toNat - 48) by omega) (ih _)
    have hm := mono r (acc * 10 + (c.toNat - 48))
    rw [List.foldl_cons] at hb
    rw [Go.Lib.parseUint10, if_pos hc, if_neg (by omega), if_neg (by omega), parse_digs r _ h.2 hb]
    rfl
theorem atoiL_itoa {n : Int} (h1 : -9223372036854775808 ≤ n) (h2 : n ≤ 9223372036854775807) : atoiL (itoa n) = n := by
  have mag : ∀ u : Nat, u < 9223372036854775809 → Go.Lib.parseMag (Go.Lib.decDigits u) = .ok u := fun u hu => by
    unfold Go.Lib.parseMag
    have hv : (Go.Lib.decDigits u).foldl (fun a c => a * 10 + (c.toNat - 48)) 0 = u := val_dec u
    rw [if_neg (dec_ne u), parse_digs _ 0 (dec_dig u) (by rw [hv]; exact hu), hv]
  unfold atoiL itoa Go.Lib.itoa
  by_cases h : n < 0
  · rw [if_pos h]
    have : Go.Lib.atoiAll (45 :: Go.Lib.decDigits n.natAbs) = .ok n := by
      unfold Go.Lib.atoiAll
      have h45 : (45 : UInt8).toNat = 45 := rfl
      simp only [h45, or_true, if_true, mag n.natAbs (by omega)]
      rw [if_neg (by simp), if_neg (by omega)]
      refine congrArg Go.Lib.NumEnd.ok ?_
      omega
    rw [this]
  · rw [if_neg h]
    have h' : Go.Lib.atoiAll (Go.Lib.decDigits n.toNat) = .ok n := by
      cases hd : Go.Lib.decDigits n.toNat with
      | nil => exact absurd hd (dec_ne _)
      | cons c l =>
        have ho := dec_open n.toNat []
        rw [List.append_nil, hd] at ho
        simp only [opens, dig, Bool.and_eq_true, decide_eq_true_eq] at ho
        unfold Go.Lib.atoiAll
        have e1 : ¬ c.toNat = 43 := by omega
        have e2 : ¬ c.toNat = 45 := by omega
        simp only [e1, e2, or_self, if_false]
        rw [← hd, mag n.toNat (by omega)]
        simp only [not_false_eq_true, true_and, false_and, if_false]
        rw [if_neg (by omega)]
        refine congrArg Go.Lib.NumEnd.ok ?_
        omega
    rw [h']
end Pl

/-
  The codes' contracts: texts that are read: the library's functions, pieces, numerals. No condition.
-/
set_option linter.unusedVariables false
set_option linter.unusedSimpArgs false
set_option maxRecDepth 100000
namespace Pl
open Go Cg
theorem split_cut (c : UInt8) : ∀ l : List UInt8, Go.Lib.splitK [c] 0 (Go.Lib.count l [c]) l = cutL c l
  | [] => by
    have h : Go.Lib.index [] [c] = -1 := rfl
    rw [Go.Lib.count_miss h]; rfl
  | x :: r => by
    have ih := split_cut c r
    by_cases hx : x = c
    · subst hx
      have h : Go.Lib.index (x :: r) [x] = ((0 : Nat) : Int) := by
        unfold Go.Lib.index
        rw [if_pos (by simp)]; rfl
      rw [Go.Lib.count_hit (by simp) h, Nat.add_comm, Go.Lib.splitK, if_neg (by rw [h]; decide), h]
      rw [cutL, if_pos rfl, ← ih]
      rfl
    · obtain ⟨p, ps, e1, e2⟩ := cutL_cons hx r
      rw [e2]
      have hp : [c].isPrefixOf (x :: r) = false := by simp [List.isPrefixOf, Ne.symm hx]
      rcases Go.Lib.index_spec r [c] with ⟨h1, _⟩ | ⟨i, h1, hi, _, _⟩
      · have h : Go.Lib.index (x :: r) [c] = -1 := by unfold Go.Lib.index; rw [hp, h1]; rfl
        rw [Go.Lib.count_miss h]
        rw [Go.Lib.count_miss h1, e1] at ih
        cases ih
        rfl
      · have h : Go.Lib.index (x :: r) [c] = ((i + 1 : Nat) : Int) := by
          unfold Go.Lib.index
          rw [hp, h1]
          have : ((i : Int) == -1) = false := by rw [beq_eq_false_iff_ne]; omega
          simp [this]
        have hc := Go.Lib.count_hit (sub := [c]) (by simp) h
        have hr := Go.Lib.count_hit (sub := [c]) (by simp) h1
        have hd : (x :: r).drop (i + 1 + [c].length) = r.drop (i + [c].length) := by
          rw [show i + 1 + [c].length = (i + [c].length) + 1 by omega, List.drop_succ_cons]
        rw [hd] at hc
        have m1 : ¬ (Go.Lib.index (x :: r) [c] == -1) = true := by rw [h]; simp only [beq_iff_eq]; omega
        have m2 : ¬ (Go.Lib.index r [c] == -1) = true := by rw [h1]; simp only [beq_iff_eq]; omega
        rw [hr, e1, Nat.add_comm 1, Go.Lib.splitK, if_neg m2, h1] at ih
        rw [hc, Nat.add_comm 1, Go.Lib.splitK, if_neg m1, h]
        simp only [Int.toNat_natCast, Nat.add_zero] at ih ⊢
        rw [hd, List.take_succ_cons]
        rw [List.cons.injEq] at ih ⊢
        exact ⟨by rw [ih.1], ih.2⟩
theorem count_cut (c : UInt8) : ∀ l : List UInt8, (cutL c l).length = Go.Lib.count l [c] + 1
  | [] => by
    have h : Go.Lib.index [] [c] = -1 := rfl
    rw [Go.Lib.count_miss h]; rfl
  | x :: r => by
    have ih := count_cut c r
    by_cases hx : x = c
    · subst hx
      have h : Go.Lib.index (x :: r) [x] = ((0 : Nat) : Int) := by
        unfold Go.Lib.index
        rw [if_pos (by simp)]; rfl
      rw [Go.Lib.count_hit (by simp) h, cutL, if_pos rfl, List.length_cons, ih]
      show Go.Lib.count r [x] + 1 + 1 = 1 + Go.Lib.count ((x :: r).drop 1) [x] + 1
      rw [List.drop_succ_cons, List.drop_zero]; omega
    · obtain ⟨p, ps, e1, e2⟩ := cutL_cons hx r
      rw [e2]
      rw [e1] at ih
      have hp : [c].isPrefixOf (x :: r) = false := by simp [List.isPrefixOf, Ne.symm hx]
      rcases Go.Lib.index_spec r [c] with ⟨h1, _⟩ | ⟨i, h1, hi, _, _⟩
      · have h : Go.Lib.index (x :: r) [c] = -1 := by unfold Go.Lib.index; rw [hp, h1]; rfl
        rw [Go.Lib.count_miss h]
        rw [Go.Lib.count_miss h1] at ih
        simpa using ih
      · have h : Go.Lib.index (x :: r) [c] = ((i + 1 : Nat) : Int) := by
          unfold Go.Lib.index
          rw [hp, h1]
          have : ((i : Int) == -1) = false := by rw [beq_eq_false_iff_ne]; omega
          simp [this]
        have hc := Go.Lib.count_hit (sub := [c]) (by simp) h
        have hr := Go.Lib.count_hit (sub := [c]) (by simp) h1
        have hd : (x :: r).drop (i + 1 + [c].length) = r.drop (i + [c].length) := by
          rw [show i + 1 + [c].length = (i + [c].length) + 1 by omega, List.drop_succ_cons]
        rw [hd] at hc
        rw [hc, ← hr]
        exact ih
theorem bl_mk (l : List UInt8) : bl' (mkB l) = l := rfl
theorem splitB_cut (c : UInt8) (s : ByteArray) : Go.Lib.splitB (mkB [c]) 0 (Go.Lib.countB s (mkB [c])) s = cut c s := by
  have h := Go.Lib.splitB_data (mkB [c]) 0 (Go.Lib.countB s (mkB [c])) s
  have h2 : Go.Lib.splitK (mkB [c]).data.toList 0 (Go.Lib.countB s (mkB [c])) s.data.toList = cutL c (bl' s) := split_cut c (bl' s)
  rw [h2] at h
  unfold cut
  rw [← h, List.map_map]
  have e : (mkB ∘ fun (x : ByteArray) => x.data.toList) = id := by funext x; rfl
  rw [e, List.map_id]
end Pl
namespace Cg
open Go Go.Proofs Pl
theorem gl_max {S : Nat → Prop} {w : World} (h : Gl S w) : ∃ m, w.cell? ⟨0, 0, none⟩ = some (.int .i64 m) := by
  obtain ⟨h1, c, T, fr, h2, m, h3⟩ := h _ (List.mem_cons_of_mem _ List.mem_cons_self)
  have h2 : w.heap[(0 : Nat)]? = some (.cells c T fr) := h2
  exact ⟨m, by simp only [World.cell?, h2, h3]; rfl⟩
theorem gl_syn {S : Nat → Prop} {w : World} (h : Gl S w) : ∃ ev, w.cell? ⟨1, 0, none⟩ = some ev ∧ (ev = .nilIface ∨ ∃ te pe, ev = .iface te pe) := by
  obtain ⟨h1, c, T, fr, h2, m, h3, h4⟩ := h _ (List.mem_cons_of_mem _ (List.mem_cons_of_mem _ List.mem_cons_self))
  have h2 : w.heap[(1 : Nat)]? = some (.cells c T fr) := h2
  exact ⟨m, by simp only [World.cell?, h2, h3]; rfl, h4⟩
theorem gl_rng {S : Nat → Prop} {w : World} (h : Gl S w) : ∃ ev, w.cell? ⟨2, 0, none⟩ = some ev ∧ (ev = .nilIface ∨ ∃ te pe, ev = .iface te pe) := by
  obtain ⟨h1, c, T, fr, h2, m, h3, h4⟩ := h _ (List.mem_cons_of_mem _ (List.mem_cons_of_mem _ (List.mem_cons_of_mem _ List.mem_cons_self)))
  have h2 : w.heap[(2 : Nat)]? = some (.cells c T fr) := h2
  exact ⟨m, by simp only [World.cell?, h2, h3]; rfl, h4⟩
theorem k_Split : SoundC Tryz.prog K_Split.1 K_Split.2 := ⟨callable_of (by kernel_rfl), fun x hx S w vals hin hgl hrel => by
  obtain ⟨s, c⟩ := x
  replace hx : s.size ≤ 4294967280 := hx
  obtain ⟨y0, r0, rfl, ha, y1, r1, rfl, hb, hc⟩ := hrel
  cases hc
  have ha : y0 = .string s := ha
  have hb : y1 = .string (mkB [c]) := hb
  subst ha; subst hb
  obtain ⟨m, hm⟩ := gl_max hgl
  refine (Tryz.strings_Split s (mkB [c]) m w (by omega) hm (Nat.le_refl 1)).mono fun e w' ⟨he, hw⟩ => ?_
  rw [splitB_cut] at hw
  have hlen : Go.Lib.countB s (mkB [c]) + 1 = (cut c s).length := by
    have h1 := Go.Lib.splitB_length_le (mkB [c]) 0 (Go.Lib.countB s (mkB [c])) s
    rw [splitB_cut] at h1
    have h2 := count_cut c (bl' s)
    have h3 : Go.Lib.countB s (mkB [c]) = Go.Lib.count (bl' s) [c] := rfl
    unfold cut
    rw [List.length_map, h2, h3]
  rw [hlen] at he
  subst hw
  generalize hC : ((cut c s).map Value.string).toArray = C

  have hnew : (w.heap.push (Obj.cells C 9))[w.heap.size]? = some (Obj.cells C 9) := by rw [Array.getElem?_push, if_pos rfl]
  refine ⟨_, fun b => S b ∨ b = w.heap.size, he, Ext.push w _ w.drawn, fun b hb => .inl hb, fun b hb => hb.elim .inl fun e => .inr (by omega), fun b hb => ?_, ?_⟩
  · show b < (w.heap.push _).size
    rw [Array.size_push]
    rcases hb with hb | rfl
    · have := hin b hb; omega
    · omega
  · refine ⟨_, _, rfl, Nat.le_refl _, .inr ⟨_, _, rfl, .inr rfl, _, _, _, hnew, fun i hi j hj => ?_⟩⟩
    have hj0 : j = 0 := by omega
    subst hj0
    refine ⟨.string ((cut c s).getD i ByteArray.empty), ?_, rfl, rfl⟩
    subst hC
    simp [hi, List.getD_eq_getElem?_getD]⟩
theorem k_Atoi : SoundC Tryz.prog K_Atoi.1 K_Atoi.2 := ⟨callable_of (by kernel_rfl), fun s hx S w vals hin hgl hrel => by
  replace hx : s.size ≤ 4294967280 := hx
  obtain ⟨y0, r0, rfl, ha, hc⟩ := hrel
  cases hc
  have ha : y0 = .string s := ha
  subst ha
  have fin : ∀ (n : Int) (v : Value) (w' : World), n = atoi s → Ext w w' → ∃ y S', (Ending.returned (.tuple #[.int .i64 n, v])) = .returned y ∧ After S mu0 w (.tup [i64 (atoi s), .any]) y w' S' := fun n v w' hn he => by
    subst hn
    exact ⟨_, S, rfl, he, fun _ h => h, fun _ h => .inl h, fun b hb => Nat.lt_of_lt_of_le (hin b hb) he.size, [.int .i64 (atoi s), v], rfl, _, _, rfl, rfl, _, _, rfl, trivial, rfl⟩
  cases h : Go.Lib.atoiAll s.data.toList with
  | ok v =>
    refine (Tryz.strconv_Atoi_ok s (by omega) v h w).mono fun e w' ⟨he, hw⟩ => ?_
    subst he
    have hv : v = atoi s := by unfold atoi atoiL bl'; rw [h]
    rcases hw with rfl | ⟨t, rfl⟩
    · exact fin _ _ _ hv (Ext.refl _)
    · exact fin _ _ _ hv (Ext.ofBelow (Go.Lib.bytesWorld_below w _ t))
  | range =>
    obtain ⟨ev, h1, h2⟩ := gl_rng hgl
    refine (Tryz.strconv_Atoi_range s (by omega) h ev w h1 h2).mono fun e w' ⟨N, he, _, _, hw⟩ => ?_
    subst he
    exact fin _ _ _ (by unfold atoi atoiL bl'; rw [h]) (Ext.ofBelow hw)
  | _ =>
    obtain ⟨ev, h1, h2⟩ := gl_syn hgl
    refine (Tryz.strconv_Atoi_syntax s (by omega) (fun v q => by rw [h] at q; cases q) (fun q => by rw [h] at q; cases q) ev w h1 h2).mono fun e w' ⟨N, he, _, _, hw⟩ => ?_
    subst he
    exact fin _ _ _ (by unfold atoi atoiL bl'; rw [h]) (Ext.ofBelow hw)⟩
theorem k_Cut : SoundC Tryz.prog K_Cut.1 K_Cut.2 := ⟨callable_of (by kernel_rfl), fun x hx S w vals hin hgl hrel => by
  obtain ⟨s, sep⟩ := x
  replace hx : s.size ≤ 4294967280 := hx
  obtain ⟨y0, r0, rfl, ha, y1, r1, rfl, hb, hc⟩ := hrel
  cases hc
  have ha : y0 = .string s := ha
  have hb : y1 = .string sep := hb
  subst ha; subst hb
  obtain ⟨m, hm⟩ := gl_max hgl
  refine (Tryz.strings_Cut s sep m w (by omega) hm).mono fun e w' ⟨he, n, hw⟩ => ?_
  subst hw
  exact ⟨_, S, he, Ext.drawn w _, fun _ h => h, fun _ h => .inl h, hin, [_, _, _], rfl, _, _, rfl, rfl, _, _, rfl, rfl, _, _, rfl, rfl, rfl⟩⟩
theorem k_HasPrefix : SoundC Tryz.prog K_HasPrefix.1 K_HasPrefix.2 := ⟨callable_of (by kernel_rfl), fun x hx S w vals hin hgl hrel => by
  obtain ⟨s, p⟩ := x
  obtain ⟨y0, r0, rfl, ha, y1, r1, rfl, hb, hc⟩ := hrel
  cases hc
  have ha : y0 = .string s := ha
  have hb : y1 = .string p := hb
  subst ha; subst hb
  refine (Tryz.strings_HasPrefix s p w).mono fun e w' ⟨he, hw⟩ => ?_
  subst hw
  exact ⟨_, S, he, Ext.refl _, fun _ h => h, fun _ h => .inl h, hin, rfl⟩⟩
theorem byte_at (s : ByteArray) (i : Nat) : s.data[i]?.getD 0 = (bl' s).getD i 0 := by
  unfold bl'
  rw [List.getD_eq_getElem?_getD, Array.getElem?_toList]
theorem ext_mk (s : ByteArray) (a b : Nat) : s.extract a b = mkB (((bl' s).drop a).take (b - a)) := by
  apply ByteArray.ext
  apply Array.toList_inj.1
  show (s.extract a b).data.toList = _
  rw [ByteArray.data_extract, Array.toList_extract, List.extract_eq_take_drop]
  rfl
theorem bl_len (s : ByteArray) : (bl' s).length = s.size := rfl
theorem piece_end {c : UInt8} {l : List UInt8} {a : Nat} (h : ∀ k, a ≤ k → k < l.length → l.getD k 0 ≠ c) : cutL c (l.drop a) = [l.drop a] :=
  cutL_no fun x hx => by
    obtain ⟨i, hi, rfl⟩ := List.getElem_of_mem hx
    rw [List.length_drop] at hi
    have := h (a + i) (by omega) (by omega)
    rw [List.getElem_drop]
    rw [List.getD_eq_getElem?_getD, List.getElem?_eq_getElem (by omega)] at this
    exact this
theorem piece_step {c : UInt8} {l : List UInt8} {a i : Nat} (hai : a ≤ i) (hi : i < l.length) (hc : l.getD i 0 = c) (h : ∀ k, a ≤ k → k < i → l.getD k 0 ≠ c) :
    cutL c (l.drop a) = (l.drop a).take (i - a) :: cutL c (l.drop (i + 1)) := by
  have e : l.drop a = (l.drop a).take (i - a) ++ c :: l.drop (i + 1) := by
    have h1 : l.drop i = c :: l.drop (i + 1) := by
      rw [List.drop_eq_getElem_cons hi]
      rw [List.getD_eq_getElem?_getD, List.getElem?_eq_getElem hi] at hc
      rw [show l[i] = c from hc]
    rw [← h1]
    have := (List.take_append_drop (i - a) (l.drop a)).symm
    rw [List.drop_drop, show a + (i - a) = i by omega] at this
    exact this
  conv => lhs; rw [e]
  exact cutL_app _ fun x hx => by
    obtain ⟨k, hk, rfl⟩ := List.getElem_of_mem hx
    rw [List.length_take, List.length_drop] at hk
    have := h (a + k) (by omega) (by omega)
    rw [List.getElem_take, List.getElem_drop]
    rw [List.getD_eq_getElem?_getD, List.getElem?_eq_getElem (by omega)] at this
    exact this
set_option maxHeartbeats 8000000 in
theorem g_l16Cut (s : ByteArray) (c : UInt8) (h1 : SzT s) : GoalW Tryz.prog [] (A_l16Cut s c) K_l16Cut.1 K_l16Cut.2 ((s, c)) := GoalW.of (vc_l16Cut s c) (by
  simp (maxSteps := 2000000) [-List.getD_eq_getElem?_getD, -List.mem_cons, -Bool.forall_bool, -Bool.exists_bool, and_assoc, peta, tl_inj, ex_1, ex_2, ex_3, ex_4, ex_5, ex_6, ex_7, ex_8, ex_9, ey_2, ey_3, ey_4, ey_5, ey_6, ey_7, ey_8, ey_9]
  have hs : s.size ≤ 4294967280 := h1
  have hl := bl_len s
  refine ⟨⟨0, 0, Nat.le_refl _, [], Nat.le_refl _, by omega, fun k h1 h2 => absurd h2 (by omega), fun _ => ⟨by omega, by simp [cut]⟩, fun h => absurd h (by omega), rfl, rfl, rfl, rfl⟩, fun i fr b h2 h3 h4 h5 h6 h7 => ⟨fun hle => ⟨fun he => ?_, fun he => ⟨by omega, fun hc => ?_, fun hc => ?_⟩⟩, fun hgt => h7 hgt⟩⟩
  · have he : i = s.size := by omega
    subst he
    have e := (h6 hle).2
    rw [piece_end fun k k1 k2 => h5 k k1 (by omega) (by omega)] at e
    refine ⟨h2, hle, by omega, s.size + 1, s.size + 1, Nat.le_refl _, b ++ [s.extract fr s.size], by simp; omega, by omega, fun k k1 k2 k3 => by omega, fun h => absurd h (by omega), fun _ => ?_, by omega, by simp, by rw [wrap_small (by omega) (by omega)]; omega, by rw [wrap_small (by omega) (by omega)]; omega, strs_push⟩
    rw [e, ext_mk, List.take_of_length_le (by simp; omega)]
    rfl
  · have hi : i < s.size := by omega
    have hc' : (bl' s).getD i 0 = c := by rw [← byte_at]; exact UInt8.toNat_inj.1 (by omega)
    refine ⟨h2, hle, by omega, i + 1, i + 1, Nat.le_refl _, b ++ [s.extract fr i], by simp; omega, by omega, fun k k1 k2 k3 => by omega, fun h => ⟨h, ?_⟩, fun h => by omega, by omega, by simp, by rw [wrap_small (by omega) (by omega)]; omega, by rw [wrap_small (by omega) (by omega)]; omega, strs_push⟩
    rw [(h6 hle).2, piece_step h2 (by omega) hc' fun k k1 k2 => h5 k k1 k2 (by omega), ext_mk]
    simp
  · have hi : i < s.size := by omega
    have hc' : (bl' s).getD i 0 ≠ c := fun e => hc (by rw [byte_at, e])
    refine ⟨i + 1, fr, by omega, b, h3, by omega, fun k k1 k2 k3 => ?_, fun h => h6 hle, fun h => by omega, by omega, rfl, rfl, by rw [wrap_small (by omega) (by omega)]; omega, .inr rfl⟩
    by_cases hk : k = i
    · rw [hk]; exact hc'
    · exact h5 k k1 (by omega) k3)
theorem k_l16Cut : SoundC Tryz.prog K_l16Cut.1 K_l16Cut.2 := sound_ofW hm CtxOK.nil (fun ((s, c) : ByteArray × UInt8) => A_l16Cut s c) (by kernel_rfl) fun ((s, c) : ByteArray × UInt8) hb => g_l16Cut s c hb
theorem numD_no {neg : Bool} {b : List UInt8} {a : Nat} (ha : a < b.length) (h : isDig (b.getD a 0) = false) : numD neg b = (0, false) := by
  unfold numD
  split
  · rfl
  · rw [if_neg]
    intro hall
    rw [List.all_eq_true] at hall
    have := hall (b.getD a 0) (getD_mem 0 ha)
    rw [h] at this; cases this
theorem num_loop (s : ByteArray) : ∀ (a : Nat) (a_1 : Bool) (b : List UInt8),
    a ≤ b.length → b.length ≤ 17 → num s = numD a_1 b → ¬b = [] → b.length ≤ 17 → (b.getD 0 0 = 48 → b.length ≤ 1 ∧ a_1 = false) → (∀ (x : UInt8), x ∈ List.take a b → isDig x = true) →
    (a < b.length → a < b.length ∧ (((((bl' (mkB b)).getD a 0).toNat : Nat) : Int) < 48 → 0 = (num s).fst ∧ (num s).snd = false) ∧
      ((48 : Int) ≤ ((((bl' (mkB b)).getD a 0).toNat : Nat) : Int) → a < b.length ∧ ((57 : Int) < ((((bl' (mkB b)).getD a 0).toNat : Nat) : Int) → 0 = (num s).fst ∧ (num s).snd = false) ∧
        (((((bl' (mkB b)).getD a 0).toNat : Nat) : Int) ≤ 57 → a < b.length ∧ ∃ a_12 a_13 b_1, a_12 ≤ b_1.length ∧ b_1.length ≤ 17 ∧ num s = numD a_13 b_1 ∧ ¬b_1 = [] ∧ b_1.length ≤ 17 ∧
          (b_1.getD 0 0 = 48 → b_1.length ≤ 1 ∧ a_13 = false) ∧ (∀ (x : UInt8), x ∈ List.take a_12 b_1 → isDig x = true) ∧ b_1.length - a_12 < b.length - a ∧ mkB b = mkB b_1 ∧ a_1 = a_13 ∧
          IntKind.i64.wrap (IntKind.i64.wrap (((vl (List.take a b) : Nat) : Int) * 10) + IntKind.i64.wrap (IntKind.u8.wrap (((((bl' (mkB b)).getD a 0).toNat : Nat) : Int) - 48))) = ((vl (List.take a_12 b_1) : Nat) : Int) ∧
          IntKind.i64.wrap ((a : Int) + 1) = ((a_12 : Nat) : Int)))) ∧
    (b.length ≤ a → (a_1 = true → IntKind.i64.wrap (-((vl (List.take a b) : Nat) : Int)) = (num s).fst ∧ (num s).snd = true) ∧ (a_1 = false → ((vl (List.take a b) : Nat) : Int) = (num s).fst ∧ (num s).snd = true)) := by
  intro a neg b h1 h2 h3 h4 _ h5 h6
  rw [show bl' (mkB b) = b from rfl]
  have no : a < b.length → isDig (b.getD a 0) = false → 0 = (num s).fst ∧ (num s).snd = false := fun ha h => by
    rw [h3, numD_no ha h]; exact ⟨rfl, rfl⟩
  have hlen : (b.take a).length = a := by rw [List.length_take]; omega
  have hv : vl (b.take a) < 10 ^ a := by
    have := vl_lt (b.take a) (List.all_eq_true.2 fun x hx => h6 x hx)
    rwa [hlen] at this
  have hp : (10 : Nat) ^ a ≤ 10 ^ 17 := Nat.pow_le_pow_right (by decide) (by omega)
  have h17 : (10 : Nat) ^ 17 = 100000000000000000 := by decide
  refine ⟨fun ha => ⟨ha, fun h => no ha ?_, fun hlo => ⟨ha, fun h => no ha ?_, fun hhi => ⟨ha, a + 1, neg, b, ha, h2, h3, h4, h2, h5, fun x hx => ?_, by omega, rfl, rfl, ?_, wrap_small (by omega) (by omega)⟩⟩⟩, fun hge => ?_⟩
  · unfold isDig; rw [decide_eq_false (by omega)]; rfl
  · unfold isDig; rw [decide_eq_false (p := (b.getD a 0).toNat ≤ 57) (by omega), Bool.and_false]
  · rw [take_snoc 0 ha, List.mem_append] at hx
    rcases hx with hx | hx
    · exact h6 x hx
    · rw [List.mem_singleton] at hx
      subst hx
      unfold isDig; rw [decide_eq_true (by omega), decide_eq_true (by omega)]; rfl
  · have hu : IntKind.u8.wrap ((((b.getD a 0).toNat : Nat) : Int) - 48) = (((b.getD a 0).toNat : Nat) : Int) - 48 := by
      show ((((b.getD a 0).toNat : Nat) : Int) - 48) % 256 = _
      omega
    rw [hu, wrap_small (x := ((vl (List.take a b) : Nat) : Int) * 10) (by omega) (by omega), wrap_small (x := (((b.getD a 0).toNat : Nat) : Int) - 48) (by omega) (by omega), wrap_small (by omega) (by omega), take_snoc 0 ha, vl_snoc]
    push_cast
    omega
  · have ha : a = b.length := by omega
    subst ha
    rw [List.take_length] at h6 hv ⊢
    have e : numD neg b = (if neg = true then -(vl b : Int) else vl b, true) := by
      unfold numD
      rw [if_neg, if_pos (List.all_eq_true.2 fun x hx => h6 x hx)]
      rintro (h | h | ⟨h, h'⟩)
      · exact h4 (List.length_eq_zero_iff.1 h)
      · omega
      · obtain ⟨q1, q2⟩ := h5 h
        rcases h' with h' | h'
        · omega
        · rw [q2] at h'; cases h'
    rw [h3, e, wrap_small (by omega) (by omega)]
    exact ⟨fun h => by rw [if_pos h]; exact ⟨rfl, rfl⟩, fun h => by rw [if_neg (by rw [h]; simp)]; exact ⟨rfl, rfl⟩⟩
set_option maxHeartbeats 8000000 in
theorem g_l16Num (s : ByteArray) (h1 : SzT s) : GoalW Tryz.prog [] (A_l16Num s) K_l16Num.1 K_l16Num.2 (s) := GoalW.of (vc_l16Num s) (by
  simp (maxSteps := 2000000) [-List.getD_eq_getElem?_getD, -List.mem_cons, -Bool.forall_bool, -Bool.exists_bool, and_assoc, peta, tl_inj, ex_1, ex_2, ex_3, ex_4, ex_5, ex_6, ex_7, ex_8, ex_9, ey_2, ey_3, ey_4, ey_5, ey_6, ey_7, ey_8, ey_9]
  have hs : s.size ≤ 4294967280 := h1
  have hl := bl_len s
  have hd : (bl' s).drop 1 = bl' (s.extract 1 s.size) := by
    rw [ext_mk]
    show _ = List.take (s.size - 1) ((bl' s).drop 1)
    rw [List.take_of_length_le (by simp; omega)]
  have hx : ∀ i, (s.data.extract 1 s.size)[i]?.getD 0 = ((bl' s).drop 1).getD i 0 := fun i => by
    rw [hd, ← byte_at]
    show _ = (s.extract 1 s.size).data[i]?.getD 0
    rw [ByteArray.data_extract]
  simp only [byte_at, hx]
  have i8 : ∀ (x : UInt8) (n : UInt8) (k : Int), k = ((n.toNat : Nat) : Int) → ((((x.toNat : Nat) : Int)) = k ↔ x = n) := fun x n k hk => by
    rw [hk]
    exact ⟨fun h => UInt8.toNat_inj.1 (by omega), fun h => by rw [h]⟩
  simp only [i8 _ 45 45 rfl, i8 _ 48 48 rfl]
  have nlen : ∀ d : List UInt8, ∀ neg, d.length = 0 → numD neg d = (0, false) := fun d neg h => by unfold numD; rw [if_pos (.inl h)]
  have nlong : ∀ d : List UInt8, ∀ neg, 17 < d.length → numD neg d = (0, false) := fun d neg h => by unfold numD; rw [if_pos (.inr (.inl h))]
  have nzero : ∀ d : List UInt8, ∀ neg, d.getD 0 0 = 48 → (1 < d.length ∨ neg = true) → numD neg d = (0, false) := fun d neg h h' => by unfold numD; rw [if_pos (.inr (.inr ⟨h, h'⟩))]
  have fin : ∀ {x : Int × Bool}, num s = x → x = (0, false) → 0 = (num s).fst ∧ (num s).snd = false := fun h1 h2 => by rw [h1, h2]; exact ⟨rfl, rfl⟩
  have yes : 0 < s.size → (bl' s).getD 0 0 = 45 → num s = numD true ((bl' s).drop 1) := fun h h' => by unfold num numL; rw [if_pos ⟨by rw [bl_len]; exact h, h'⟩]
  have not : ¬ (0 < s.size ∧ (bl' s).getD 0 0 = 45) → num s = numD false (bl' s) := fun h => by unfold num numL; rw [if_neg (by rw [bl_len]; exact h)]
  have dl : ((bl' s).drop 1).length = s.size - 1 := by simp; rfl
  have init : ∀ (neg : Bool) (d : List UInt8) (t : ByteArray), num s = numD neg d → t = mkB d → d.length ≠ 0 → d.length ≤ 17 → (d.getD 0 0 = 48 → d.length ≤ 1 ∧ neg = false) →
      ∃ a a_1 b, a ≤ b.length ∧ b.length ≤ 17 ∧ num s = numD a_1 b ∧ ¬b = [] ∧ b.length ≤ 17 ∧ (b.getD 0 0 = 48 → b.length ≤ 1 ∧ a_1 = false) ∧ (∀ (x : UInt8), x ∈ List.take a b → isDig x = true) ∧ t = mkB b ∧ neg = a_1 ∧ (0 : Int) = ((vl (List.take a b) : Nat) : Int) ∧ (0 : Int) = ((a : Nat) : Int) :=
    fun neg d t h1 h2 h3 h4 h5 => ⟨0, neg, d, Nat.zero_le _, h4, h1, fun e => h3 (by rw [e]; rfl), h4, h5, fun x hx => by simp at hx, h2, rfl, rfl, rfl⟩
  have n45 : ∀ h : (bl' s).getD 0 0 = 45, (((((bl' s).getD 0 0).toNat : Nat) : Int) == 45) = true := fun h => by rw [h]; rfl
  have m45 : ¬ (bl' s).getD 0 0 = 45 → (((((bl' s).getD 0 0).toNat : Nat) : Int) == 45) = false := fun h => by
    rw [beq_eq_false_iff_ne]
    exact fun e => h ((i8 _ 45 45 rfl).1 e)
  refine ⟨fun hp => ⟨hp, fun h45 => ⟨by omega, fun hz => fin (yes hp h45) (nlen _ _ (by omega)), fun hz => ⟨fun h17 => fin (yes hp h45) (nlong _ _ (by omega)), fun h17 => ⟨by omega, fun h48 => ⟨fun h1 => fin (yes hp h45) (nzero _ _ h48 (.inl (by omega))), fun h1 => ⟨fun _ => fin (yes hp h45) (nzero _ _ h48 (.inr rfl)), fun hn => absurd h45 hn⟩⟩, fun h48 => ⟨?_, num_loop s⟩⟩⟩⟩, fun h45 => ?_⟩, fun hp => ?_⟩
  · rw [n45 h45]
    exact init true _ _ (yes hp h45) (by rw [hd]; rfl) (by omega) (by omega) fun h => absurd h h48
  · have hnum := not fun e => h45 e.2
    have hne : ¬ s = ByteArray.empty := fun e => by rw [e] at hp; exact absurd hp (by decide)
    refine ⟨fun e => absurd e hne, fun _ => ⟨fun h17 => fin hnum (nlong _ _ (by omega)), fun h17 => ⟨hp, fun h48 => ⟨fun h1 => fin hnum (nzero _ _ h48 (.inl (by omega))), fun h1 => ⟨fun h => absurd h h45, fun _ => ⟨?_, num_loop s⟩⟩⟩, fun h48 => ⟨?_, num_loop s⟩⟩⟩⟩
    · rw [m45 h45]
      exact init false _ _ hnum rfl (by omega) (by omega) fun _ => ⟨by omega, rfl⟩
    · rw [m45 h45]
      exact init false _ _ hnum rfl (by omega) (by omega) fun h => absurd h h48
  · exact ⟨fun _ => fin (not fun e => by rw [hp] at e; exact absurd e.1 (by decide)) (nlen _ _ (by rw [hp]; rfl)), fun h => absurd hp h⟩)
theorem k_l16Num : SoundC Tryz.prog K_l16Num.1 K_l16Num.2 := sound_ofW hm CtxOK.nil (fun (s : ByteArray) => A_l16Num s) (by kernel_rfl) fun (s : ByteArray) hb => g_l16Num s hb
end Cg

/-
  What is left to show of each function's code, printed by a program: Mds. No condition.
-/
set_option maxRecDepth 100000
set_option linter.unusedVariables false
namespace Cg
open Go Go.Proofs
end Cg

/-
  What is left to show of each function's code, printed by a program: Draw. No condition.
-/
set_option maxRecDepth 100000
set_option linter.unusedVariables false
namespace Cg
open Go Go.Proofs
end Cg

/-
  What is left to show of each function's code, printed by a program: Units. No condition.
-/
set_option maxRecDepth 100000
set_option linter.unusedVariables false
namespace Cg
open Go Go.Proofs
end Cg

/-
  Unit propagation: plain laws. No condition.
-/
set_option linter.unusedVariables false
namespace Pl
open Go Cg

/-- A mark of at most sixty variables. -/
def Mk (x : Int) : Prop := x ≠ 0 ∧ -60 ≤ x ∧ x ≤ 60
theorem Mk.wneg {x : Int} (h : Mk x) : Pl.wneg x = -x := by
  obtain ⟨h1, h2, h3⟩ := h
  unfold Pl.wneg; rw [Cg.wrap_small (by omega) (by omega)]; omega
theorem absW_of {x : Int} (h : Mk x) : absW x = if x < 0 then -x else x := by
  obtain ⟨h1, h2, h3⟩ := h
  unfold absW Pl.wneg
  rw [if_neg (by omega), if_neg (by omega)]
  split
  · rw [Cg.wrap_small (by omega) (by omega)]; omega
  · rfl
end Pl

/-
  The codes' contracts: unit propagation. No condition.
-/
set_option linter.unusedVariables false
set_option linter.unusedSimpArgs false
set_option maxRecDepth 100000
namespace Cg
open Go Go.Proofs

end Cg

/-
  The codes' contracts: the reader. No condition.
-/
set_option linter.unusedVariables false
set_option linter.unusedSimpArgs false
set_option maxRecDepth 100000
namespace Cg
open Go Go.Proofs

theorem Rd.mono {m m' : Int} {b : List Int} {p : Int} (h : Rd m b p) (hm : m ≤ m') : Rd m' b p := ⟨h.1, h.2.1, h.2.2.1, Int.le_trans h.2.2.2 hm⟩
theorem Rd.add {m m' : Int} {b : List Int} {p p' : Int} (h : Rd m b p) (h1 : p ≤ p') (h2 : p' ≤ m') : Rd m' b p' := ⟨h.1, h.2.1, Int.le_trans h.2.2.1 h1, h2⟩

end Cg

/-
  Drawn clause sets: plain laws. No condition.
-/
set_option linter.unusedVariables false
set_option linter.unusedSimpArgs false
namespace Pl
open Go Cg

theorem lIs_neg {x : Int} {v : List Bool} (h0 : x ≠ 0) (h1 : x ≤ v.length) (h2 : -(v.length : Int) ≤ x) : lIs (-x) v = !lIs x v := by
  have e1 : ¬ (-x = 0 ∨ -x > (v.length : Int) ∨ -x < -(v.length : Int)) := by omega
  have e2 : ¬ (x = 0 ∨ x > (v.length : Int) ∨ x < -(v.length : Int)) := by omega
  unfold lIs
  rw [if_neg e1, if_neg e2]
  by_cases h : x < 0
  · have e3 : ¬ -x < 0 := by omega
    rw [if_neg e3, if_pos h, Bool.not_not]; congr 2; omega
  · have e3 : -x < 0 := by omega
    rw [if_pos e3, if_neg h]; congr 3; omega
theorem Mk.le_abs {x n : Int} (h : Mk x) (h1 : absW x ≤ n) : x ≤ n ∧ -n ≤ x := by
  rw [absW_of h] at h1
  split at h1 <;> omega
theorem Mk.lIs {x : Int} {v : List Bool} (h : Mk x) (h1 : absW x ≤ v.length) : Pl.lIs (Pl.wneg x) v = !Pl.lIs x v := by
  obtain ⟨h2, h3⟩ := h.le_abs h1
  rw [h.wneg]
  exact lIs_neg h.1 h2 h3

end Pl

/-
  The codes' contracts: drawn clause sets. No condition.
-/
set_option linter.unusedVariables false
set_option linter.unusedSimpArgs false
set_option maxRecDepth 100000
namespace Cg
open Go Go.Proofs

end Cg

/-
  The codes' contracts: drawn clause sets, the rest. No condition.
-/
set_option linter.unusedVariables false
set_option linter.unusedSimpArgs false
set_option maxRecDepth 100000
namespace Cg
open Go Go.Proofs


theorem Rd.to {m m' : Int} {b : List Int} {p p' : Int} (h : Rd m b p) (h1 : 0 ≤ p') (h2 : p' ≤ m') : Rd m' b p' := ⟨h.1, h.2.1, h1, h2⟩
theorem Rds.two {v w : List Int} {a b : AV} (h1 : Is a (ints v)) (h2 : Is b (ints w)) : Rds 1 eII [] 2 (rowsCell [[a], [b]]) [v, w] := ⟨rfl, fun i hi j hj => by
  match i, j, hi, hj with
  | 0, 0, _, _ => exact h1
  | 1, 0, _, _ => exact h2⟩
theorem Rds.one {v : List Int} {a : AV} (h1 : Is a (ints v)) : Rds 1 eII [] 1 (rowsCell [[a]]) [v] := ⟨rfl, fun i hi j hj => by
  match i, j, hi, hj with
  | 0, 0, _, _ => exact h1⟩

theorem Sm.len {a : Int} {l : List (List Int)} (h : Sm (a, l)) : a ≤ 61 ∧ l.length ≤ 100 ∧ ∀ x ∈ l, x.length ≤ 100 := h
end Cg

/-
  The codes' contracts: laws of drawn clause sets. No condition.
-/
set_option linter.unusedVariables false
set_option linter.unusedSimpArgs false
set_option maxRecDepth 100000
namespace Cg
open Go Go.Proofs

end Cg

/-
  The codes' contracts: drawn words. No condition.
-/
set_option linter.unusedVariables false
set_option linter.unusedSimpArgs false
set_option maxRecDepth 100000
namespace Cg
open Go Go.Proofs Pl
theorem slit (v : ByteArray) (j : Nat) (hj : j < 1) : [st v].getD j .any = eS v j := by
  have : j = 0 := by omega
  subst this
  rfl
@[simp] theorem strs_lit3 {a b c : ByteArray} {m : List ByteArray} : Is (.lit 3 1 (rowsCell [[st a], [st b], [st c]])) (strs m) ↔ [a, b, c] = m := Is_lits (by decide) EncN.eS [a, b, c] m (fun v => [st v]) slit
@[simp] theorem strs_lit5 {a b c d e : ByteArray} {m : List ByteArray} : Is (.lit 5 1 (rowsCell [[st a], [st b], [st c], [st d], [st e]])) (strs m) ↔ [a, b, c, d, e] = m := Is_lits (by decide) EncN.eS [a, b, c, d, e] m (fun v => [st v]) slit
@[simp] theorem strs_lit4 {a b c d : ByteArray} {m : List ByteArray} : Is (.lit 4 1 (rowsCell [[st a], [st b], [st c], [st d]])) (strs m) ↔ [a, b, c, d] = m := Is_lits (by decide) EncN.eS [a, b, c, d] m (fun v => [st v]) slit
/-- Rows that were written out, one by one. -/
def LitR {α : Type} (k : Nat) (e : α → Nat → AV) (d : α) (rows : List (List AV)) (l : List α) : Prop := rows.length = l.length ∧ ∀ i, i < l.length → ∀ j, j < k → Is ((rows.getD i []).getD j .any) (e (l.getD i d) j)
theorem LitR.nil {α : Type} {k : Nat} {e : α → Nat → AV} {d : α} : LitR k e d [] [] := ⟨rfl, fun i hi => by cases hi⟩
theorem LitR.cons {α : Type} {k : Nat} {e : α → Nat → AV} {d : α} {rows : List (List AV)} {l : List α} (h : LitR k e d rows l) {r : List AV} {v : α} (hr : ∀ j, j < k → Is (r.getD j .any) (e v j)) : LitR k e d (r :: rows) (v :: l) :=
  ⟨by simp [h.1], fun i hi j hj => by
    cases i with
    | zero => exact hr j hj
    | succ i => exact h.2 i (by simpa using hi) j hj⟩
theorem LitR.is {α : Type} {k : Nat} {e : α → Nat → AV} {d : α} {rows : List (List AV)} {l : List α} (h : LitR k e d rows l) : Is (.lit rows.length k (rowsCell rows)) (.sl l.length k fun i j => e (l.getD i d) j) :=
  Is_lit_of h.1 fun i hi j hj => h.2 i hi j hj
theorem mem_set_imp {α : Type} {q : α → Prop} {l : List α} {i : Nat} {v : α} (h : ∀ x ∈ l, q x) (hv : q v) : ∀ x ∈ l.set i v, q x := fun x hx => by
  rcases List.mem_or_eq_of_mem_set hx with e | e
  · exact h x e
  · rw [e]; exact hv
theorem mem_push_imp {α : Type} {q : α → Prop} {l : List α} {v : α} (h : ∀ x ∈ l, q x) (hv : q v) : ∀ x ∈ l ++ [v], q x := fun x hx => by
  rcases List.mem_append.1 hx with e | e
  · exact h x e
  · rw [List.mem_singleton.1 e]; exact hv
theorem _root_.Pl.SgB.mono {n k n' k' : Nat} {s : Pl.Sig} (h : SgB n k s) (h1 : n ≤ n') (h2 : k ≤ k') : SgB n' k' s := ⟨Nat.le_trans h.1 h1, fun x hx => ⟨(h.2 x hx).1, Nat.le_trans (h.2 x hx).2 h2⟩⟩
theorem _root_.Pl.SgB.set {n k : Nat} {s : Pl.Sig} (h : SgB n k s) {i : Nat} {x : Sym} (hx : x.1.size ≤ 10 ∧ x.2.1.length ≤ k) : SgB n k (s.set i x) := ⟨by simpa using h.1, mem_set_imp h.2 hx⟩
theorem _root_.Pl.SgB.push {n k : Nat} {s : Pl.Sig} (h : SgB n k s) {x : Sym} (hn : s.length < n) (hx : x.1.size ≤ 10 ∧ x.2.1.length ≤ k) : SgB n k (s ++ [x]) := ⟨by simp; omega, mem_push_imp h.2 hx⟩
end Cg

/-
  The codes' contracts: vocabularies that are read. No condition.
-/
set_option linter.unusedVariables false
set_option linter.unusedSimpArgs false
set_option maxRecDepth 100000
namespace Pl
open Go Cg
end Pl
namespace Cg
open Go Go.Proofs Pl
end Cg

/-
  Plain laws: vocabularies are read back as written. No condition.
-/
set_option linter.unusedVariables false
set_option linter.unusedSimpArgs false
namespace Pl
open Go Cg
theorem i0 : itoa 0 = [48] := dec_last (m := 0) (by omega)
theorem i1 : itoa 1 = [49] := dec_last (m := 1) (by omega)
end Pl

/-
  The codes' contracts: vocabularies that are marked, and the law that reading them is exact. No condition.
-/
set_option linter.unusedVariables false
set_option linter.unusedSimpArgs false
set_option maxRecDepth 100000
namespace Pl
open Go Cg
@[simp] theorem mkY_len : ∀ (k : Int) (l : Sig), (mkY k l).length = l.length
  | _, [] => rfl
  | k, r :: l => by simp [mkY, mkY_len]
end Pl
namespace Cg
open Go Go.Proofs Pl
theorem IsX_st {a : ByteArray} : IsX (st a) (st a) := rfl
theorem IsX_i64 {a : Int} : IsX (i64 a) (i64 a) := rfl
@[simp] theorem xrY_self {l : Sig} : IsO (xrY l) (xrY l) := ⟨rfl, rfl, fun i hi j hj => by
  match j, hj with
  | 0, _ => exact IsX_st
  | 1, _ => exact IsX_ints
  | 2, _ => exact IsX_i64⟩
set_option maxHeartbeats 8000000 in
theorem g_markText (k : Int) (h1 : Mk1 k 0) : GoalW Tryz.prog [] (A_markText k) K_markText.1 K_markText.2 (k) := GoalW.of (vc_markText k) (by
  simp (maxSteps := 2000000) [-List.getD_eq_getElem?_getD, -List.mem_cons, -Bool.forall_bool, -Bool.exists_bool, and_assoc, peta, tl_inj, ex_1, ex_2, ex_3, ex_4, ex_5, ex_6, ex_7, ex_8, ex_9, ey_2, ey_3, ey_4, ey_5, ey_6, ey_7, ey_8, ey_9]
  obtain ⟨k1, k2⟩ := h1
  have hl := itoa_len (n := k) ⟨by omega, by omega⟩
  refine ⟨fun h => by omega, fun _ => ⟨⟨k.toNat, by omega, [], by simp, fun h => by omega, fun _ => by rw [List.append_nil, Int.toNat_of_nonneg (by omega)], by omega, rfl⟩, fun a b ha hb h0 h2 => ⟨fun hpos => ?_, fun h => ⟨by omega, by rw [h0 h]; rfl⟩⟩⟩⟩
  have hd : UInt8.ofNat (IntKind.u8.wrap (IntKind.i64.wrap (48 + ((a : Nat) : Int).tmod 10))).toNat = UInt8.ofNat (48 + a % 10) := by
    rw [show ((a : Int)).tmod 10 = ((a % 10 : Nat) : Int) from rfl, digit_eq (Nat.mod_lt _ (by omega))]
  rw [hd]
  have h3 := h2 hpos
  have hk : itoa k = (if 9 < a then itoa ((a / 10 : Nat) : Int) else []) ++ UInt8.ofNat (48 + a % 10) :: b := by
    rw [h3]
    split
    · rw [dec_step (by assumption)]; simp
    · rw [dec_last (by omega), Nat.mod_eq_of_lt (by omega)]; rfl
  have hbl : b.length + 1 ≤ 21 := by
    have := congrArg List.length hk
    simp only [List.length_append, List.length_cons] at this
    omega
  refine ⟨by show ((1 : Nat) : Int) + _ ≤ _; omega, a / 10, by omega, UInt8.ofNat (48 + a % 10) :: b, by simpa using hbl, fun h => ?_, fun h => ?_, by omega, by rw [wrap_small (by omega) (by omega)]; omega, rfl⟩
  · rw [hk, if_neg (by omega)]; rfl
  · rw [hk, if_pos (by omega)])
theorem k_markText : SoundC Tryz.prog K_markText.1 K_markText.2 := sound_ofW hm CtxOK.nil (fun (k : Int) => A_markText k) (by kernel_rfl) fun (k : Int) hb => g_markText k hb
end Cg

/-
  What is left to show of each function's code, printed by a program: Ado. No condition.
-/
set_option maxRecDepth 100000
set_option linter.unusedVariables false
namespace Cg
open Go Go.Proofs
theorem vc_readTermO (n : Nat) (s : ByteArray) (d : Nat) : ((∃ x : Nat,
 (x ≤ s.size ∧ x + Pl.wl (List.drop x (Pl.bl' s)) = Pl.wl (Pl.bl' s)) ∧ (s = s ∧ (5 : Int) - (↑d : Int) = (5 : Int) - (↑d : Int) ∧ (0 : Nat) = (0 : Nat) ∧ (0 : Int) = (↑x : Int) ∧ True) ∧ (ByteArray.mk #[] = ByteArray.empty ∧ Is (AV.lit (0 : Nat) (1 : Nat) fun (x x_1 : Nat) => AV.any) nilA ∧ True) ∧ True) ∧ ∀ (x : Nat),
 x ≤ s.size ∧ x + Pl.wl (List.drop x (Pl.bl' s)) = Pl.wl (Pl.bl' s) →
 condP (decide ((↑x : Int) < (↑s.size : Int)))
 (((0 : Int) ≤ (↑x : Int) ∧ (↑x : Int) < (↑s.size : Int)) ∧ condP (decide ((↑(s.data.getD x (0 : UInt8)).toNat : Int) ≥ (97 : Int)))
 (((0 : Int) ≤ (↑x : Int) ∧ (↑x : Int) < (↑s.size : Int)) ∧ condP (decide ((↑(s.data.getD x (0 : UInt8)).toNat : Int) ≤ (122 : Int)))
 (Exists fun (x' : Nat) =>
 (x' ≤ s.size ∧ x' + Pl.wl (List.drop x' (Pl.bl' s)) = Pl.wl (Pl.bl' s)) ∧ s.size - x' < s.size - x ∧ (s = s ∧ (5 : Int) - (↑d : Int) = (5 : Int) - (↑d : Int) ∧ (0 : Nat) = (0 : Nat) ∧ IntKind.i64.wrap ((↑x : Int) + (1 : Int)) = (↑x' : Int) ∧ True) ∧ (ByteArray.empty = ByteArray.empty ∧ Is (AV.lit (0 : Nat) (1 : Nat) fun (x x_1 : Nat) => AV.any) nilA ∧ True) ∧ True)
 (((0 : Int) ≤ (↑x : Int) ∧ (↑x : Int) ≤ (↑s.size : Int)) ∧ ((0 : Int) ≤ (↑x : Int) ∧ (↑x : Int) ≤ (↑s.size : Int)) ∧ condP (decide ((5 : Int) - (↑d : Int) > (4 : Int)))
 (∃ y : Unit,
 True ∧ (((ByteArray.mk #[] = (Pl.rdT false d (Pl.bl' s)).1.1 ∧ ((0 : Nat) = (0 : Nat) ∧ (0 : Nat) = (0 : Nat) ∧ (Pl.rdT false d (Pl.bl' s)).1.2.length = (0 : Nat)) ∧ True) ∧ ByteArray.mk #[] = Pl.restB (Pl.rdT false d (Pl.bl' s)).2 ∧ false = (Pl.rdT false d (Pl.bl' s)).2.isSome ∧ True) ∧ True) ∧ (Pl.rdT false d (Pl.bl' s)).1.2.length = (0 : Nat) ∧ True)
 (∃ x_1 : ByteArray,
 (s.extract (0 : Nat) x = x_1 ∧ True) ∧ x_1.size ≤ (1048576 : Nat) ∧ condP (!Pl.nameOk x_1)
 (∃ y : Unit,
 True ∧ (((ByteArray.mk #[] = (Pl.rdT false d (Pl.bl' s)).1.1 ∧ ((0 : Nat) = (0 : Nat) ∧ (0 : Nat) = (0 : Nat) ∧ (Pl.rdT false d (Pl.bl' s)).1.2.length = (0 : Nat)) ∧ True) ∧ ByteArray.mk #[] = Pl.restB (Pl.rdT false d (Pl.bl' s)).2 ∧ false = (Pl.rdT false d (Pl.bl' s)).2.isSome ∧ True) ∧ True) ∧ (Pl.rdT false d (Pl.bl' s)).1.2.length = (0 : Nat) ∧ True)
 (∃ x_2 : ByteArray × ByteArray,
 (s.extract x s.size = x_2.1 ∧ ByteArray.mk #[(40 : UInt8)] = x_2.2 ∧ True) ∧ x_2.1.size.le (4294967280 : Nat) ∧ condP (!Lib.hasPrefix (Pl.bl' x_2.1) (Pl.bl' x_2.2))
 (∃ y : Unit,
 True ∧ (((s.extract (0 : Nat) x = (Pl.rdT false d (Pl.bl' s)).1.1 ∧ ((0 : Nat) = (0 : Nat) ∧ (0 : Nat) = (0 : Nat) ∧ (Pl.rdT false d (Pl.bl' s)).1.2.length = (0 : Nat)) ∧ True) ∧ s.extract x s.size = Pl.restB (Pl.rdT false d (Pl.bl' s)).2 ∧ true = (Pl.rdT false d (Pl.bl' s)).2.isSome ∧ True) ∧ True) ∧ (Pl.rdT false d (Pl.bl' s)).1.2.length = (0 : Nat) ∧ True)
 ((∃ x_3 : List UInt8 × List Pl.Tm,
 (x_3.1.length ≤ s.size ∧ x_3.2.length ≤ (2 : Nat) ∧ (0 : Nat) < d ∧ Pl.kidsR (Pl.rdT false (d - (1 : Nat))) false (Pl.wname (Pl.bl' s)) ((2 : Nat) - x_3.2.length) x_3.2 x_3.1 =
 Pl.rdT false d (Pl.bl' s)) ∧ ((5 : Int) - (↑d : Int) = (5 : Int) - (↑d : Int) ∧ (0 : Nat) = (0 : Nat) ∧ (0 : Nat) = (0 : Nat) ∧ s.extract x s.size = Pl.mkB x_3.1 ∧ True) ∧ (ByteArray.empty = ByteArray.empty ∧ Is (AV.lit (0 : Nat) (1 : Nat) fun (x x_4 : Nat) => AV.any) nilA ∧ True) ∧ (s.extract (0 : Nat) x = Pl.wname (Pl.bl' s) ∧ ((0 : Nat) = (0 : Nat) ∧ (0 : Nat) = (0 : Nat) ∧ x_3.2.length = (0 : Nat)) ∧ True) ∧ x_3.2.length = (0 : Nat) ∧ True) ∧ ∀ (x : List UInt8 × List Pl.Tm),
 x.1.length ≤ s.size ∧ x.2.length ≤ (2 : Nat) ∧ (0 : Nat) < d ∧ Pl.kidsR (Pl.rdT false (d - (1 : Nat))) false (Pl.wname (Pl.bl' s)) ((2 : Nat) - x.2.length) x.2 x.1 =
 Pl.rdT false d (Pl.bl' s) →
 condP (!(Pl.mkB x.1).toList == (ByteArray.mk #[]).toList)
 (((0 : Int) ≤ (0 : Int) ∧ (0 : Int) < (↑(Pl.mkB x.1).size : Int)) ∧ condP ((↑((Pl.mkB x.1).data.getD (0 : Nat) (0 : UInt8)).toNat : Int) != (41 : Int))
 (condP (decide ((↑x.2.length : Int) < (2 : Int)))
 (((0 : Int) ≤ (1 : Int) ∧ (1 : Int) ≤ (↑(Pl.mkB x.1).size : Int)) ∧ ∃ x_3 : ByteArray × Nat,
 ((x_3.1.size.le (1048576 : Nat) ∧ x_3.2 ≤ (4 : Nat)) ∧ x_3.2 < n) ∧ (((Pl.mkB x.1).extract (1 : Nat) (Pl.mkB x.1).size = x_3.1 ∧ IntKind.i64.wrap ((5 : Int) - (↑d : Int) + (1 : Int)) = (5 : Int) - (↑x_3.2 : Int) ∧ True) ∧ True) ∧ ∀ (y : Unit),
 True →
 condP (!(Pl.rdT false x_3.2 (Pl.bl' x_3.1)).2.isSome)
 (∃ y : Unit,
 True ∧ (((ByteArray.mk #[] = (Pl.rdT false d (Pl.bl' s)).1.1 ∧ ((0 : Nat) = (0 : Nat) ∧ (0 : Nat) = (0 : Nat) ∧ (Pl.rdT false d (Pl.bl' s)).1.2.length = (0 : Nat)) ∧ True) ∧ ByteArray.mk #[] = Pl.restB (Pl.rdT false d (Pl.bl' s)).2 ∧ false = (Pl.rdT false d (Pl.bl' s)).2.isSome ∧ True) ∧ True) ∧ (Pl.rdT false d (Pl.bl' s)).1.2.length = (0 : Nat) ∧ True)
 (x.2.length = x.2.length ∧ (0 : Nat) + (Pl.rdT false x_3.2 (Pl.bl' x_3.1)).1.2.length ≤
 (Pl.rdT false x_3.2 (Pl.bl' x_3.1)).1.2.length ∧ (x.2.length + (1 : Nat)) * (40 : Nat) ≤ (70368744177664 : Nat) ∧ Exists fun (x' : List UInt8 × List Pl.Tm) =>
 (x'.1.length ≤ s.size ∧ x'.2.length ≤ (2 : Nat) ∧ (0 : Nat) < d ∧ Pl.kidsR (Pl.rdT false (d - (1 : Nat))) false (Pl.wname (Pl.bl' s)) ((2 : Nat) - x'.2.length) x'.2
 x'.1 =
 Pl.rdT false d (Pl.bl' s)) ∧ (2 : Nat) - x'.2.length < (2 : Nat) - x.2.length ∧ ((5 : Int) - (↑d : Int) = (5 : Int) - (↑d : Int) ∧ (0 : Nat) = (0 : Nat) ∧ (0 : Nat) = (0 : Nat) ∧ Pl.restB (Pl.rdT false x_3.2 (Pl.bl' x_3.1)).2 = Pl.mkB x'.1 ∧ True) ∧ (ByteArray.empty = ByteArray.empty ∧ Is (AV.lit (0 : Nat) (1 : Nat) fun (x x_4 : Nat) => AV.any) nilA ∧ True) ∧ (Pl.wname (Pl.bl' s) = Pl.wname (Pl.bl' s) ∧ ((0 : Nat) = (0 : Nat) ∧ x.2.length + (1 : Nat) = x'.2.length) ∧ True) ∧ IsO
 (AObj.xarr (x.2.length + (1 : Nat)) (2 : Nat)
 (joinC x.2.length (cT x.2)
 (rowsCell
 [[st (Pl.rdT false x_3.2 (Pl.bl' x_3.1)).1.1,
 terms (Pl.rdT false x_3.2 (Pl.bl' x_3.1)).1.2]])))
 (xrT x'.2) ∧ True))
 (∃ x_3 : ByteArray × ByteArray,
 (Pl.mkB x.1 = x_3.1 ∧ ByteArray.mk #[(41 : UInt8)] = x_3.2 ∧ True) ∧ x_3.1.size.le (4294967280 : Nat) ∧ condP (!Lib.hasPrefix (Pl.bl' x_3.1) (Pl.bl' x_3.2))
 (∃ y : Unit,
 True ∧ (((ByteArray.mk #[] = (Pl.rdT false d (Pl.bl' s)).1.1 ∧ ((0 : Nat) = (0 : Nat) ∧ (0 : Nat) = (0 : Nat) ∧ (Pl.rdT false d (Pl.bl' s)).1.2.length = (0 : Nat)) ∧ True) ∧ ByteArray.mk #[] = Pl.restB (Pl.rdT false d (Pl.bl' s)).2 ∧ false = (Pl.rdT false d (Pl.bl' s)).2.isSome ∧ True) ∧ True) ∧ (Pl.rdT false d (Pl.bl' s)).1.2.length = (0 : Nat) ∧ True)
 (((0 : Int) ≤ (1 : Int) ∧ (1 : Int) ≤ (↑(Pl.mkB x.1).size : Int)) ∧ ∃ y : Unit,
 True ∧ (((Pl.wname (Pl.bl' s) = (Pl.rdT false d (Pl.bl' s)).1.1 ∧ ((0 : Nat) = (0 : Nat) ∧ x.2.length = (Pl.rdT false d (Pl.bl' s)).1.2.length) ∧ True) ∧ (Pl.mkB x.1).extract (1 : Nat) (Pl.mkB x.1).size = Pl.restB (Pl.rdT false d (Pl.bl' s)).2 ∧ true = (Pl.rdT false d (Pl.bl' s)).2.isSome ∧ True) ∧ True) ∧ IsO (xrT x.2) (xrT (Pl.rdT false d (Pl.bl' s)).1.2) ∧ True)))
 (∃ x_3 : ByteArray × ByteArray,
 (Pl.mkB x.1 = x_3.1 ∧ ByteArray.mk #[(41 : UInt8)] = x_3.2 ∧ True) ∧ x_3.1.size.le (4294967280 : Nat) ∧ condP (!Lib.hasPrefix (Pl.bl' x_3.1) (Pl.bl' x_3.2))
 (∃ y : Unit,
 True ∧ (((ByteArray.mk #[] = (Pl.rdT false d (Pl.bl' s)).1.1 ∧ ((0 : Nat) = (0 : Nat) ∧ (0 : Nat) = (0 : Nat) ∧ (Pl.rdT false d (Pl.bl' s)).1.2.length = (0 : Nat)) ∧ True) ∧ ByteArray.mk #[] = Pl.restB (Pl.rdT false d (Pl.bl' s)).2 ∧ false = (Pl.rdT false d (Pl.bl' s)).2.isSome ∧ True) ∧ True) ∧ (Pl.rdT false d (Pl.bl' s)).1.2.length = (0 : Nat) ∧ True)
 (((0 : Int) ≤ (1 : Int) ∧ (1 : Int) ≤ (↑(Pl.mkB x.1).size : Int)) ∧ ∃ y : Unit,
 True ∧ (((Pl.wname (Pl.bl' s) = (Pl.rdT false d (Pl.bl' s)).1.1 ∧ ((0 : Nat) = (0 : Nat) ∧ x.2.length = (Pl.rdT false d (Pl.bl' s)).1.2.length) ∧ True) ∧ (Pl.mkB x.1).extract (1 : Nat) (Pl.mkB x.1).size = Pl.restB (Pl.rdT false d (Pl.bl' s)).2 ∧ true = (Pl.rdT false d (Pl.bl' s)).2.isSome ∧ True) ∧ True) ∧ IsO (xrT x.2) (xrT (Pl.rdT false d (Pl.bl' s)).1.2) ∧ True)))
 (∃ x_3 : ByteArray × ByteArray,
 (Pl.mkB x.1 = x_3.1 ∧ ByteArray.mk #[(41 : UInt8)] = x_3.2 ∧ True) ∧ x_3.1.size.le (4294967280 : Nat) ∧ condP (!Lib.hasPrefix (Pl.bl' x_3.1) (Pl.bl' x_3.2))
 (∃ y : Unit,
 True ∧ (((ByteArray.mk #[] = (Pl.rdT false d (Pl.bl' s)).1.1 ∧ ((0 : Nat) = (0 : Nat) ∧ (0 : Nat) = (0 : Nat) ∧ (Pl.rdT false d (Pl.bl' s)).1.2.length = (0 : Nat)) ∧ True) ∧ ByteArray.mk #[] = Pl.restB (Pl.rdT false d (Pl.bl' s)).2 ∧ false = (Pl.rdT false d (Pl.bl' s)).2.isSome ∧ True) ∧ True) ∧ (Pl.rdT false d (Pl.bl' s)).1.2.length = (0 : Nat) ∧ True)
 (((0 : Int) ≤ (1 : Int) ∧ (1 : Int) ≤ (↑(Pl.mkB x.1).size : Int)) ∧ ∃ y : Unit,
 True ∧ (((Pl.wname (Pl.bl' s) = (Pl.rdT false d (Pl.bl' s)).1.1 ∧ ((0 : Nat) = (0 : Nat) ∧ x.2.length = (Pl.rdT false d (Pl.bl' s)).1.2.length) ∧ True) ∧ (Pl.mkB x.1).extract (1 : Nat) (Pl.mkB x.1).size = Pl.restB (Pl.rdT false d (Pl.bl' s)).2 ∧ true = (Pl.rdT false d (Pl.bl' s)).2.isSome ∧ True) ∧ True) ∧ IsO (xrT x.2) (xrT (Pl.rdT false d (Pl.bl' s)).1.2) ∧ True)))))))
 (((0 : Int) ≤ (↑x : Int) ∧ (↑x : Int) ≤ (↑s.size : Int)) ∧ ((0 : Int) ≤ (↑x : Int) ∧ (↑x : Int) ≤ (↑s.size : Int)) ∧ condP (decide ((5 : Int) - (↑d : Int) > (4 : Int)))
 (∃ y : Unit,
 True ∧ (((ByteArray.mk #[] = (Pl.rdT false d (Pl.bl' s)).1.1 ∧ ((0 : Nat) = (0 : Nat) ∧ (0 : Nat) = (0 : Nat) ∧ (Pl.rdT false d (Pl.bl' s)).1.2.length = (0 : Nat)) ∧ True) ∧ ByteArray.mk #[] = Pl.restB (Pl.rdT false d (Pl.bl' s)).2 ∧ false = (Pl.rdT false d (Pl.bl' s)).2.isSome ∧ True) ∧ True) ∧ (Pl.rdT false d (Pl.bl' s)).1.2.length = (0 : Nat) ∧ True)
 (∃ x_1 : ByteArray,
 (s.extract (0 : Nat) x = x_1 ∧ True) ∧ x_1.size ≤ (1048576 : Nat) ∧ condP (!Pl.nameOk x_1)
 (∃ y : Unit,
 True ∧ (((ByteArray.mk #[] = (Pl.rdT false d (Pl.bl' s)).1.1 ∧ ((0 : Nat) = (0 : Nat) ∧ (0 : Nat) = (0 : Nat) ∧ (Pl.rdT false d (Pl.bl' s)).1.2.length = (0 : Nat)) ∧ True) ∧ ByteArray.mk #[] = Pl.restB (Pl.rdT false d (Pl.bl' s)).2 ∧ false = (Pl.rdT false d (Pl.bl' s)).2.isSome ∧ True) ∧ True) ∧ (Pl.rdT false d (Pl.bl' s)).1.2.length = (0 : Nat) ∧ True)
 (∃ x_2 : ByteArray × ByteArray,
 (s.extract x s.size = x_2.1 ∧ ByteArray.mk #[(40 : UInt8)] = x_2.2 ∧ True) ∧ x_2.1.size.le (4294967280 : Nat) ∧ condP (!Lib.hasPrefix (Pl.bl' x_2.1) (Pl.bl' x_2.2))
 (∃ y : Unit,
 True ∧ (((s.extract (0 : Nat) x = (Pl.rdT false d (Pl.bl' s)).1.1 ∧ ((0 : Nat) = (0 : Nat) ∧ (0 : Nat) = (0 : Nat) ∧ (Pl.rdT false d (Pl.bl' s)).1.2.length = (0 : Nat)) ∧ True) ∧ s.extract x s.size = Pl.restB (Pl.rdT false d (Pl.bl' s)).2 ∧ true = (Pl.rdT false d (Pl.bl' s)).2.isSome ∧ True) ∧ True) ∧ (Pl.rdT false d (Pl.bl' s)).1.2.length = (0 : Nat) ∧ True)
 ((∃ x_3 : List UInt8 × List Pl.Tm,
 (x_3.1.length ≤ s.size ∧ x_3.2.length ≤ (2 : Nat) ∧ (0 : Nat) < d ∧ Pl.kidsR (Pl.rdT false (d - (1 : Nat))) false (Pl.wname (Pl.bl' s)) ((2 : Nat) - x_3.2.length) x_3.2 x_3.1 =
 Pl.rdT false d (Pl.bl' s)) ∧ ((5 : Int) - (↑d : Int) = (5 : Int) - (↑d : Int) ∧ (0 : Nat) = (0 : Nat) ∧ (0 : Nat) = (0 : Nat) ∧ s.extract x s.size = Pl.mkB x_3.1 ∧ True) ∧ (ByteArray.empty = ByteArray.empty ∧ Is (AV.lit (0 : Nat) (1 : Nat) fun (x x_4 : Nat) => AV.any) nilA ∧ True) ∧ (s.extract (0 : Nat) x = Pl.wname (Pl.bl' s) ∧ ((0 : Nat) = (0 : Nat) ∧ (0 : Nat) = (0 : Nat) ∧ x_3.2.length = (0 : Nat)) ∧ True) ∧ x_3.2.length = (0 : Nat) ∧ True) ∧ ∀ (x : List UInt8 × List Pl.Tm),
 x.1.length ≤ s.size ∧ x.2.length ≤ (2 : Nat) ∧ (0 : Nat) < d ∧ Pl.kidsR (Pl.rdT false (d - (1 : Nat))) false (Pl.wname (Pl.bl' s)) ((2 : Nat) - x.2.length) x.2 x.1 = Pl.rdT false d (Pl.bl' s) →
 condP (!(Pl.mkB x.1).toList == (ByteArray.mk #[]).toList)
 (((0 : Int) ≤ (0 : Int) ∧ (0 : Int) < (↑(Pl.mkB x.1).size : Int)) ∧ condP ((↑((Pl.mkB x.1).data.getD (0 : Nat) (0 : UInt8)).toNat : Int) != (41 : Int))
 (condP (decide ((↑x.2.length : Int) < (2 : Int)))
 (((0 : Int) ≤ (1 : Int) ∧ (1 : Int) ≤ (↑(Pl.mkB x.1).size : Int)) ∧ ∃ x_3 : ByteArray × Nat,
 ((x_3.1.size.le (1048576 : Nat) ∧ x_3.2 ≤ (4 : Nat)) ∧ x_3.2 < n) ∧ (((Pl.mkB x.1).extract (1 : Nat) (Pl.mkB x.1).size = x_3.1 ∧ IntKind.i64.wrap ((5 : Int) - (↑d : Int) + (1 : Int)) = (5 : Int) - (↑x_3.2 : Int) ∧ True) ∧ True) ∧ ∀ (y : Unit),
 True →
 condP (!(Pl.rdT false x_3.2 (Pl.bl' x_3.1)).2.isSome)
 (∃ y : Unit,
 True ∧ (((ByteArray.mk #[] = (Pl.rdT false d (Pl.bl' s)).1.1 ∧ ((0 : Nat) = (0 : Nat) ∧ (0 : Nat) = (0 : Nat) ∧ (Pl.rdT false d (Pl.bl' s)).1.2.length = (0 : Nat)) ∧ True) ∧ ByteArray.mk #[] = Pl.restB (Pl.rdT false d (Pl.bl' s)).2 ∧ false = (Pl.rdT false d (Pl.bl' s)).2.isSome ∧ True) ∧ True) ∧ (Pl.rdT false d (Pl.bl' s)).1.2.length = (0 : Nat) ∧ True)
 (x.2.length = x.2.length ∧ (0 : Nat) + (Pl.rdT false x_3.2 (Pl.bl' x_3.1)).1.2.length ≤ (Pl.rdT false x_3.2 (Pl.bl' x_3.1)).1.2.length ∧ (x.2.length + (1 : Nat)) * (40 : Nat) ≤ (70368744177664 : Nat) ∧ Exists fun (x' : List UInt8 × List Pl.Tm) =>
 (x'.1.length ≤ s.size ∧ x'.2.length ≤ (2 : Nat) ∧ (0 : Nat) < d ∧ Pl.kidsR (Pl.rdT false (d - (1 : Nat))) false (Pl.wname (Pl.bl' s)) ((2 : Nat) - x'.2.length) x'.2 x'.1 =
 Pl.rdT false d (Pl.bl' s)) ∧ (2 : Nat) - x'.2.length < (2 : Nat) - x.2.length ∧ ((5 : Int) - (↑d : Int) = (5 : Int) - (↑d : Int) ∧ (0 : Nat) = (0 : Nat) ∧ (0 : Nat) = (0 : Nat) ∧ Pl.restB (Pl.rdT false x_3.2 (Pl.bl' x_3.1)).2 = Pl.mkB x'.1 ∧ True) ∧ (ByteArray.empty = ByteArray.empty ∧ Is (AV.lit (0 : Nat) (1 : Nat) fun (x x_4 : Nat) => AV.any) nilA ∧ True) ∧ (Pl.wname (Pl.bl' s) = Pl.wname (Pl.bl' s) ∧ ((0 : Nat) = (0 : Nat) ∧ x.2.length + (1 : Nat) = x'.2.length) ∧ True) ∧ IsO
 (AObj.xarr (x.2.length + (1 : Nat)) (2 : Nat)
 (joinC x.2.length (cT x.2)
 (rowsCell
 [[st (Pl.rdT false x_3.2 (Pl.bl' x_3.1)).1.1,
 terms (Pl.rdT false x_3.2 (Pl.bl' x_3.1)).1.2]])))
 (xrT x'.2) ∧ True))
 (∃ x_3 : ByteArray × ByteArray,
 (Pl.mkB x.1 = x_3.1 ∧ ByteArray.mk #[(41 : UInt8)] = x_3.2 ∧ True) ∧ x_3.1.size.le (4294967280 : Nat) ∧ condP (!Lib.hasPrefix (Pl.bl' x_3.1) (Pl.bl' x_3.2))
 (∃ y : Unit,
 True ∧ (((ByteArray.mk #[] = (Pl.rdT false d (Pl.bl' s)).1.1 ∧ ((0 : Nat) = (0 : Nat) ∧ (0 : Nat) = (0 : Nat) ∧ (Pl.rdT false d (Pl.bl' s)).1.2.length = (0 : Nat)) ∧ True) ∧ ByteArray.mk #[] = Pl.restB (Pl.rdT false d (Pl.bl' s)).2 ∧ false = (Pl.rdT false d (Pl.bl' s)).2.isSome ∧ True) ∧ True) ∧ (Pl.rdT false d (Pl.bl' s)).1.2.length = (0 : Nat) ∧ True)
 (((0 : Int) ≤ (1 : Int) ∧ (1 : Int) ≤ (↑(Pl.mkB x.1).size : Int)) ∧ ∃ y : Unit,
 True ∧ (((Pl.wname (Pl.bl' s) = (Pl.rdT false d (Pl.bl' s)).1.1 ∧ ((0 : Nat) = (0 : Nat) ∧ x.2.length = (Pl.rdT false d (Pl.bl' s)).1.2.length) ∧ True) ∧ (Pl.mkB x.1).extract (1 : Nat) (Pl.mkB x.1).size = Pl.restB (Pl.rdT false d (Pl.bl' s)).2 ∧ true = (Pl.rdT false d (Pl.bl' s)).2.isSome ∧ True) ∧ True) ∧ IsO (xrT x.2) (xrT (Pl.rdT false d (Pl.bl' s)).1.2) ∧ True)))
 (∃ x_3 : ByteArray × ByteArray,
 (Pl.mkB x.1 = x_3.1 ∧ ByteArray.mk #[(41 : UInt8)] = x_3.2 ∧ True) ∧ x_3.1.size.le (4294967280 : Nat) ∧ condP (!Lib.hasPrefix (Pl.bl' x_3.1) (Pl.bl' x_3.2))
 (∃ y : Unit,
 True ∧ (((ByteArray.mk #[] = (Pl.rdT false d (Pl.bl' s)).1.1 ∧ ((0 : Nat) = (0 : Nat) ∧ (0 : Nat) = (0 : Nat) ∧ (Pl.rdT false d (Pl.bl' s)).1.2.length = (0 : Nat)) ∧ True) ∧ ByteArray.mk #[] = Pl.restB (Pl.rdT false d (Pl.bl' s)).2 ∧ false = (Pl.rdT false d (Pl.bl' s)).2.isSome ∧ True) ∧ True) ∧ (Pl.rdT false d (Pl.bl' s)).1.2.length = (0 : Nat) ∧ True)
 (((0 : Int) ≤ (1 : Int) ∧ (1 : Int) ≤ (↑(Pl.mkB x.1).size : Int)) ∧ ∃ y : Unit,
 True ∧ (((Pl.wname (Pl.bl' s) = (Pl.rdT false d (Pl.bl' s)).1.1 ∧ ((0 : Nat) = (0 : Nat) ∧ x.2.length = (Pl.rdT false d (Pl.bl' s)).1.2.length) ∧ True) ∧ (Pl.mkB x.1).extract (1 : Nat) (Pl.mkB x.1).size = Pl.restB (Pl.rdT false d (Pl.bl' s)).2 ∧ true = (Pl.rdT false d (Pl.bl' s)).2.isSome ∧ True) ∧ True) ∧ IsO (xrT x.2) (xrT (Pl.rdT false d (Pl.bl' s)).1.2) ∧ True)))
 (∃ x_3 : ByteArray × ByteArray,
 (Pl.mkB x.1 = x_3.1 ∧ ByteArray.mk #[(41 : UInt8)] = x_3.2 ∧ True) ∧ x_3.1.size.le (4294967280 : Nat) ∧ condP (!Lib.hasPrefix (Pl.bl' x_3.1) (Pl.bl' x_3.2))
 (∃ y : Unit,
 True ∧ (((ByteArray.mk #[] = (Pl.rdT false d (Pl.bl' s)).1.1 ∧ ((0 : Nat) = (0 : Nat) ∧ (0 : Nat) = (0 : Nat) ∧ (Pl.rdT false d (Pl.bl' s)).1.2.length = (0 : Nat)) ∧ True) ∧ ByteArray.mk #[] = Pl.restB (Pl.rdT false d (Pl.bl' s)).2 ∧ false = (Pl.rdT false d (Pl.bl' s)).2.isSome ∧ True) ∧ True) ∧ (Pl.rdT false d (Pl.bl' s)).1.2.length = (0 : Nat) ∧ True)
 (((0 : Int) ≤ (1 : Int) ∧ (1 : Int) ≤ (↑(Pl.mkB x.1).size : Int)) ∧ ∃ y : Unit,
 True ∧ (((Pl.wname (Pl.bl' s) = (Pl.rdT false d (Pl.bl' s)).1.1 ∧ ((0 : Nat) = (0 : Nat) ∧ x.2.length = (Pl.rdT false d (Pl.bl' s)).1.2.length) ∧ True) ∧ (Pl.mkB x.1).extract (1 : Nat) (Pl.mkB x.1).size = Pl.restB (Pl.rdT false d (Pl.bl' s)).2 ∧ true = (Pl.rdT false d (Pl.bl' s)).2.isSome ∧ True) ∧ True) ∧ IsO (xrT x.2) (xrT (Pl.rdT false d (Pl.bl' s)).1.2) ∧ True)))))))
 (((0 : Int) ≤ (↑x : Int) ∧ (↑x : Int) ≤ (↑s.size : Int)) ∧ ((0 : Int) ≤ (↑x : Int) ∧ (↑x : Int) ≤ (↑s.size : Int)) ∧ condP (decide ((5 : Int) - (↑d : Int) > (4 : Int)))
 (∃ y : Unit,
 True ∧ (((ByteArray.mk #[] = (Pl.rdT false d (Pl.bl' s)).1.1 ∧ ((0 : Nat) = (0 : Nat) ∧ (0 : Nat) = (0 : Nat) ∧ (Pl.rdT false d (Pl.bl' s)).1.2.length = (0 : Nat)) ∧ True) ∧ ByteArray.mk #[] = Pl.restB (Pl.rdT false d (Pl.bl' s)).2 ∧ false = (Pl.rdT false d (Pl.bl' s)).2.isSome ∧ True) ∧ True) ∧ (Pl.rdT false d (Pl.bl' s)).1.2.length = (0 : Nat) ∧ True)
 (∃ x_1 : ByteArray,
 (s.extract (0 : Nat) x = x_1 ∧ True) ∧ x_1.size ≤ (1048576 : Nat) ∧ condP (!Pl.nameOk x_1)
 (∃ y : Unit,
 True ∧ (((ByteArray.mk #[] = (Pl.rdT false d (Pl.bl' s)).1.1 ∧ ((0 : Nat) = (0 : Nat) ∧ (0 : Nat) = (0 : Nat) ∧ (Pl.rdT false d (Pl.bl' s)).1.2.length = (0 : Nat)) ∧ True) ∧ ByteArray.mk #[] = Pl.restB (Pl.rdT false d (Pl.bl' s)).2 ∧ false = (Pl.rdT false d (Pl.bl' s)).2.isSome ∧ True) ∧ True) ∧ (Pl.rdT false d (Pl.bl' s)).1.2.length = (0 : Nat) ∧ True)
 (∃ x_2 : ByteArray × ByteArray,
 (s.extract x s.size = x_2.1 ∧ ByteArray.mk #[(40 : UInt8)] = x_2.2 ∧ True) ∧ x_2.1.size.le (4294967280 : Nat) ∧ condP (!Lib.hasPrefix (Pl.bl' x_2.1) (Pl.bl' x_2.2))
 (∃ y : Unit,
 True ∧ (((s.extract (0 : Nat) x = (Pl.rdT false d (Pl.bl' s)).1.1 ∧ ((0 : Nat) = (0 : Nat) ∧ (0 : Nat) = (0 : Nat) ∧ (Pl.rdT false d (Pl.bl' s)).1.2.length = (0 : Nat)) ∧ True) ∧ s.extract x s.size = Pl.restB (Pl.rdT false d (Pl.bl' s)).2 ∧ true = (Pl.rdT false d (Pl.bl' s)).2.isSome ∧ True) ∧ True) ∧ (Pl.rdT false d (Pl.bl' s)).1.2.length = (0 : Nat) ∧ True)
 ((∃ x_3 : List UInt8 × List Pl.Tm,
 (x_3.1.length ≤ s.size ∧ x_3.2.length ≤ (2 : Nat) ∧ (0 : Nat) < d ∧ Pl.kidsR (Pl.rdT false (d - (1 : Nat))) false (Pl.wname (Pl.bl' s)) ((2 : Nat) - x_3.2.length) x_3.2 x_3.1 = Pl.rdT false d (Pl.bl' s)) ∧ ((5 : Int) - (↑d : Int) = (5 : Int) - (↑d : Int) ∧ (0 : Nat) = (0 : Nat) ∧ (0 : Nat) = (0 : Nat) ∧ s.extract x s.size = Pl.mkB x_3.1 ∧ True) ∧ (ByteArray.empty = ByteArray.empty ∧ Is (AV.lit (0 : Nat) (1 : Nat) fun (x x_4 : Nat) => AV.any) nilA ∧ True) ∧ (s.extract (0 : Nat) x = Pl.wname (Pl.bl' s) ∧ ((0 : Nat) = (0 : Nat) ∧ (0 : Nat) = (0 : Nat) ∧ x_3.2.length = (0 : Nat)) ∧ True) ∧ x_3.2.length = (0 : Nat) ∧ True) ∧ ∀ (x : List UInt8 × List Pl.Tm),
 x.1.length ≤ s.size ∧ x.2.length ≤ (2 : Nat) ∧ (0 : Nat) < d ∧ Pl.kidsR (Pl.rdT false (d - (1 : Nat))) false (Pl.wname (Pl.bl' s)) ((2 : Nat) - x.2.length) x.2 x.1 = Pl.rdT false d (Pl.bl' s) →
 condP (!(Pl.mkB x.1).toList == (ByteArray.mk #[]).toList)
 (((0 : Int) ≤ (0 : Int) ∧ (0 : Int) < (↑(Pl.mkB x.1).size : Int)) ∧ condP ((↑((Pl.mkB x.1).data.getD (0 : Nat) (0 : UInt8)).toNat : Int) != (41 : Int))
 (condP (decide ((↑x.2.length : Int) < (2 : Int)))
 (((0 : Int) ≤ (1 : Int) ∧ (1 : Int) ≤ (↑(Pl.mkB x.1).size : Int)) ∧ ∃ x_3 : ByteArray × Nat,
 ((x_3.1.size.le (1048576 : Nat) ∧ x_3.2 ≤ (4 : Nat)) ∧ x_3.2 < n) ∧ (((Pl.mkB x.1).extract (1 : Nat) (Pl.mkB x.1).size = x_3.1 ∧ IntKind.i64.wrap ((5 : Int) - (↑d : Int) + (1 : Int)) = (5 : Int) - (↑x_3.2 : Int) ∧ True) ∧ True) ∧ ∀ (y : Unit),
 True →
 condP (!(Pl.rdT false x_3.2 (Pl.bl' x_3.1)).2.isSome)
 (∃ y : Unit,
 True ∧ (((ByteArray.mk #[] = (Pl.rdT false d (Pl.bl' s)).1.1 ∧ ((0 : Nat) = (0 : Nat) ∧ (0 : Nat) = (0 : Nat) ∧ (Pl.rdT false d (Pl.bl' s)).1.2.length = (0 : Nat)) ∧ True) ∧ ByteArray.mk #[] = Pl.restB (Pl.rdT false d (Pl.bl' s)).2 ∧ false = (Pl.rdT false d (Pl.bl' s)).2.isSome ∧ True) ∧ True) ∧ (Pl.rdT false d (Pl.bl' s)).1.2.length = (0 : Nat) ∧ True)
 (x.2.length = x.2.length ∧ (0 : Nat) + (Pl.rdT false x_3.2 (Pl.bl' x_3.1)).1.2.length ≤ (Pl.rdT false x_3.2 (Pl.bl' x_3.1)).1.2.length ∧ (x.2.length + (1 : Nat)) * (40 : Nat) ≤ (70368744177664 : Nat) ∧ Exists fun (x' : List UInt8 × List Pl.Tm) =>
 (x'.1.length ≤ s.size ∧ x'.2.length ≤ (2 : Nat) ∧ (0 : Nat) < d ∧ Pl.kidsR (Pl.rdT false (d - (1 : Nat))) false (Pl.wname (Pl.bl' s)) ((2 : Nat) - x'.2.length) x'.2 x'.1 =
 Pl.rdT false d (Pl.bl' s)) ∧ (2 : Nat) - x'.2.length < (2 : Nat) - x.2.length ∧ ((5 : Int) - (↑d : Int) = (5 : Int) - (↑d : Int) ∧ (0 : Nat) = (0 : Nat) ∧ (0 : Nat) = (0 : Nat) ∧ Pl.restB (Pl.rdT false x_3.2 (Pl.bl' x_3.1)).2 = Pl.mkB x'.1 ∧ True) ∧ (ByteArray.empty = ByteArray.empty ∧ Is (AV.lit (0 : Nat) (1 : Nat) fun (x x_4 : Nat) => AV.any) nilA ∧ True) ∧ (Pl.wname (Pl.bl' s) = Pl.wname (Pl.bl' s) ∧ ((0 : Nat) = (0 : Nat) ∧ x.2.length + (1 : Nat) = x'.2.length) ∧ True) ∧ IsO
 (AObj.xarr (x.2.length + (1 : Nat)) (2 : Nat)
 (joinC x.2.length (cT x.2)
 (rowsCell
 [[st (Pl.rdT false x_3.2 (Pl.bl' x_3.1)).1.1,
 terms (Pl.rdT false x_3.2 (Pl.bl' x_3.1)).1.2]])))
 (xrT x'.2) ∧ True))
 (∃ x_3 : ByteArray × ByteArray,
 (Pl.mkB x.1 = x_3.1 ∧ ByteArray.mk #[(41 : UInt8)] = x_3.2 ∧ True) ∧ x_3.1.size.le (4294967280 : Nat) ∧ condP (!Lib.hasPrefix (Pl.bl' x_3.1) (Pl.bl' x_3.2))
 (∃ y : Unit,
 True ∧ (((ByteArray.mk #[] = (Pl.rdT false d (Pl.bl' s)).1.1 ∧ ((0 : Nat) = (0 : Nat) ∧ (0 : Nat) = (0 : Nat) ∧ (Pl.rdT false d (Pl.bl' s)).1.2.length = (0 : Nat)) ∧ True) ∧ ByteArray.mk #[] = Pl.restB (Pl.rdT false d (Pl.bl' s)).2 ∧ false = (Pl.rdT false d (Pl.bl' s)).2.isSome ∧ True) ∧ True) ∧ (Pl.rdT false d (Pl.bl' s)).1.2.length = (0 : Nat) ∧ True)
 (((0 : Int) ≤ (1 : Int) ∧ (1 : Int) ≤ (↑(Pl.mkB x.1).size : Int)) ∧ ∃ y : Unit,
 True ∧ (((Pl.wname (Pl.bl' s) = (Pl.rdT false d (Pl.bl' s)).1.1 ∧ ((0 : Nat) = (0 : Nat) ∧ x.2.length = (Pl.rdT false d (Pl.bl' s)).1.2.length) ∧ True) ∧ (Pl.mkB x.1).extract (1 : Nat) (Pl.mkB x.1).size = Pl.restB (Pl.rdT false d (Pl.bl' s)).2 ∧ true = (Pl.rdT false d (Pl.bl' s)).2.isSome ∧ True) ∧ True) ∧ IsO (xrT x.2) (xrT (Pl.rdT false d (Pl.bl' s)).1.2) ∧ True)))
 (∃ x_3 : ByteArray × ByteArray,
 (Pl.mkB x.1 = x_3.1 ∧ ByteArray.mk #[(41 : UInt8)] = x_3.2 ∧ True) ∧ x_3.1.size.le (4294967280 : Nat) ∧ condP (!Lib.hasPrefix (Pl.bl' x_3.1) (Pl.bl' x_3.2))
 (∃ y : Unit,
 True ∧ (((ByteArray.mk #[] = (Pl.rdT false d (Pl.bl' s)).1.1 ∧ ((0 : Nat) = (0 : Nat) ∧ (0 : Nat) = (0 : Nat) ∧ (Pl.rdT false d (Pl.bl' s)).1.2.length = (0 : Nat)) ∧ True) ∧ ByteArray.mk #[] = Pl.restB (Pl.rdT false d (Pl.bl' s)).2 ∧ false = (Pl.rdT false d (Pl.bl' s)).2.isSome ∧ True) ∧ True) ∧ (Pl.rdT false d (Pl.bl' s)).1.2.length = (0 : Nat) ∧ True)
 (((0 : Int) ≤ (1 : Int) ∧ (1 : Int) ≤ (↑(Pl.mkB x.1).size : Int)) ∧ ∃ y : Unit,
 True ∧ (((Pl.wname (Pl.bl' s) = (Pl.rdT false d (Pl.bl' s)).1.1 ∧ ((0 : Nat) = (0 : Nat) ∧ x.2.length = (Pl.rdT false d (Pl.bl' s)).1.2.length) ∧ True) ∧ (Pl.mkB x.1).extract (1 : Nat) (Pl.mkB x.1).size = Pl.restB (Pl.rdT false d (Pl.bl' s)).2 ∧ true = (Pl.rdT false d (Pl.bl' s)).2.isSome ∧ True) ∧ True) ∧ IsO (xrT x.2) (xrT (Pl.rdT false d (Pl.bl' s)).1.2) ∧ True)))
 (∃ x_3 : ByteArray × ByteArray,
 (Pl.mkB x.1 = x_3.1 ∧ ByteArray.mk #[(41 : UInt8)] = x_3.2 ∧ True) ∧ x_3.1.size.le (4294967280 : Nat) ∧ condP (!Lib.hasPrefix (Pl.bl' x_3.1) (Pl.bl' x_3.2))
 (∃ y : Unit,
 True ∧ (((ByteArray.mk #[] = (Pl.rdT false d (Pl.bl' s)).1.1 ∧ ((0 : Nat) = (0 : Nat) ∧ (0 : Nat) = (0 : Nat) ∧ (Pl.rdT false d (Pl.bl' s)).1.2.length = (0 : Nat)) ∧ True) ∧ ByteArray.mk #[] = Pl.restB (Pl.rdT false d (Pl.bl' s)).2 ∧ false = (Pl.rdT false d (Pl.bl' s)).2.isSome ∧ True) ∧ True) ∧ (Pl.rdT false d (Pl.bl' s)).1.2.length = (0 : Nat) ∧ True)
 (((0 : Int) ≤ (1 : Int) ∧ (1 : Int) ≤ (↑(Pl.mkB x.1).size : Int)) ∧ ∃ y : Unit,
 True ∧ (((Pl.wname (Pl.bl' s) = (Pl.rdT false d (Pl.bl' s)).1.1 ∧ ((0 : Nat) = (0 : Nat) ∧ x.2.length = (Pl.rdT false d (Pl.bl' s)).1.2.length) ∧ True) ∧ (Pl.mkB x.1).extract (1 : Nat) (Pl.mkB x.1).size = Pl.restB (Pl.rdT false d (Pl.bl' s)).2 ∧ true = (Pl.rdT false d (Pl.bl' s)).2.isSome ∧ True) ∧ True) ∧ IsO (xrT x.2) (xrT (Pl.rdT false d (Pl.bl' s)).1.2) ∧ True))))))) = Goal Tryz.prog [K_iNameOk, K_HasPrefix, (K_readTermO n)] (A_readTermO s d) (K_readTermO (n + 1)).1 (K_readTermO (n + 1)).2 ((s, d)) := by kernel_rfl

theorem vc_iTermReadO (s : ByteArray) : (∃ x : ByteArray × Nat,
 (x.1.size.le (1048576 : Nat) ∧ x.2 ≤ (4 : Nat)) ∧ ((s = x.1 ∧ (1 : Int) = (5 : Int) - (↑x.2 : Int) ∧ True) ∧ True) ∧ ∀ (y : Unit),
 True →
 condP (!(Pl.rdT false x.2 (Pl.bl' x.1)).2.isSome)
 (∃ y : Unit,
 True ∧ (((ByteArray.mk #[] = (Pl.tmRd s).1.1 ∧ ((0 : Nat) = (0 : Nat) ∧ (0 : Nat) = (0 : Nat) ∧ (Pl.tmRd s).1.2.length = (0 : Nat)) ∧ True) ∧ false = (Pl.tmRd s).2 ∧ True) ∧ True) ∧ (Pl.tmRd s).1.2.length = (0 : Nat) ∧ True)
 (condP (!(Pl.restB (Pl.rdT false x.2 (Pl.bl' x.1)).2).toList == (ByteArray.mk #[]).toList)
 (∃ y : Unit,
 True ∧ (((ByteArray.mk #[] = (Pl.tmRd s).1.1 ∧ ((0 : Nat) = (0 : Nat) ∧ (0 : Nat) = (0 : Nat) ∧ (Pl.tmRd s).1.2.length = (0 : Nat)) ∧ True) ∧ false = (Pl.tmRd s).2 ∧ True) ∧ True) ∧ (Pl.tmRd s).1.2.length = (0 : Nat) ∧ True)
 ((0 : Nat) + (Pl.rdT false x.2 (Pl.bl' x.1)).1.2.length ≤ (Pl.rdT false x.2 (Pl.bl' x.1)).1.2.length ∧ ∃ x_1 : Pl.TP,
 (((Pl.rdT false x.2 (Pl.bl' x.1)).1.1 = x_1.1 ∧ Is (terms (Pl.rdT false x.2 (Pl.bl' x.1)).1.2) (terms x_1.2) ∧ True) ∧ True) ∧ SmT (Pl.Tree.mk x_1.1 x_1.2) ∧ condP (!Pl.right (Pl.Tree.mk x_1.1 x_1.2))
 (∃ y : Unit,
 True ∧ (((ByteArray.mk #[] = (Pl.tmRd s).1.1 ∧ ((0 : Nat) = (0 : Nat) ∧ (0 : Nat) = (0 : Nat) ∧ (Pl.tmRd s).1.2.length = (0 : Nat)) ∧ True) ∧ false = (Pl.tmRd s).2 ∧ True) ∧ True) ∧ (Pl.tmRd s).1.2.length = (0 : Nat) ∧ True)
 ((0 : Nat) + (Pl.rdT false x.2 (Pl.bl' x.1)).1.2.length ≤ (Pl.rdT false x.2 (Pl.bl' x.1)).1.2.length ∧ ∃ x_2 : Pl.TP,
 (((Pl.rdT false x.2 (Pl.bl' x.1)).1.1 = x_2.1 ∧ Is (terms (Pl.rdT false x.2 (Pl.bl' x.1)).1.2) (terms x_2.2) ∧ True) ∧ True) ∧ SmT (Pl.Tree.mk x_2.1 x_2.2) ∧ condP (!(Pl.textT (Pl.Tree.mk x_2.1 x_2.2)).toList == s.toList)
 (∃ y : Unit,
 True ∧ (((ByteArray.mk #[] = (Pl.tmRd s).1.1 ∧ ((0 : Nat) = (0 : Nat) ∧ (0 : Nat) = (0 : Nat) ∧ (Pl.tmRd s).1.2.length = (0 : Nat)) ∧ True) ∧ false = (Pl.tmRd s).2 ∧ True) ∧ True) ∧ (Pl.tmRd s).1.2.length = (0 : Nat) ∧ True)
 (∃ y : Unit,
 True ∧ ((((Pl.rdT false x.2 (Pl.bl' x.1)).1.1 = (Pl.tmRd s).1.1 ∧ ((0 : Nat) = (0 : Nat) ∧ (Pl.rdT false x.2 (Pl.bl' x.1)).1.2.length = (Pl.tmRd s).1.2.length) ∧ True) ∧ true = (Pl.tmRd s).2 ∧ True) ∧ True) ∧ IsO (xrT (Pl.rdT false x.2 (Pl.bl' x.1)).1.2) (xrT (Pl.tmRd s).1.2) ∧ True))))) = Goal Tryz.prog [K_rTermO, K_isTerm, K_tText] ([]) K_iTermReadO.1 K_iTermReadO.2 (s) := by kernel_rfl

theorem vc_readEqO (s : ByteArray) : (∃ x : ByteArray × ByteArray,
 (s = x.1 ∧ ByteArray.mk #[(61 : UInt8)] = x.2 ∧ True) ∧ x.1.size.le (4294967280 : Nat) ∧ ∃ x_1 : ByteArray,
 x_1.size.le (1048576 : Nat) ∧ ((Pl.cutA x.1 x.2 = x_1 ∧ True) ∧ True) ∧ ∀ (y : Unit),
 True →
 ∃ x_2 : ByteArray,
 x_2.size.le (1048576 : Nat) ∧ ((Pl.cutR x.1 x.2 = x_2 ∧ True) ∧ True) ∧ ∀ (y : Unit),
 True →
 condP (Pl.cutK x.1 x.2)
 (condP (Pl.tmRd x_1).2
 (∃ y : Unit,
 True ∧ ((((1 : Int) = Int.ofNat ((1 : Nat)) ∧ (Pl.tmRd x_1).1.1 = ((Pl.tmRd (Pl.cutA s Pl.eqSgn)).1, (Pl.tmRd (Pl.cutR s Pl.eqSgn)).1, Pl.noT, Pl.noI, (0 : Int), false).1.1 ∧ ((0 : Nat) = (0 : Nat) ∧ (Pl.tmRd x_1).1.2.length =
 ((Pl.tmRd (Pl.cutA s Pl.eqSgn)).1, (Pl.tmRd (Pl.cutR s Pl.eqSgn)).1, Pl.noT, Pl.noI, (0 : Int), false).1.2.length) ∧ (Pl.tmRd x_2).1.1 = ((Pl.tmRd (Pl.cutR s Pl.eqSgn)).1, Pl.noT, Pl.noI, (0 : Int), false).1.1 ∧ ((0 : Nat) = (0 : Nat) ∧ (Pl.tmRd x_2).1.2.length = ((Pl.tmRd (Pl.cutR s Pl.eqSgn)).1, Pl.noT, Pl.noI, (0 : Int), false).1.2.length) ∧ ((0 : Nat) = (0 : Nat) ∧ (0 : Nat) = (0 : Nat) ∧ (0 : Nat) = (0 : Nat)) ∧ ((0 : Nat) = (0 : Nat) ∧ (0 : Nat) = (0 : Nat) ∧ (0 : Nat) = (0 : Nat)) ∧ (0 : Int) = Int.ofNat ((0 : Nat)) ∧ false = false ∧ True) ∧ (Pl.tmRd x_2).2 = Pl.eqK s ∧ True) ∧ True) ∧ IsO (xrT (Pl.tmRd x_1).1.2)
 (xrT ((Pl.tmRd (Pl.cutA s Pl.eqSgn)).1, (Pl.tmRd (Pl.cutR s Pl.eqSgn)).1, Pl.noT, Pl.noI, (0 : Int), false).1.2) ∧ IsO (xrT (Pl.tmRd x_2).1.2) (xrT ((Pl.tmRd (Pl.cutR s Pl.eqSgn)).1, Pl.noT, Pl.noI, (0 : Int), false).1.2) ∧ (0 : Nat) = (0 : Nat) ∧ (0 : Nat) = (0 : Nat) ∧ True)
 (∃ y : Unit,
 True ∧ ((((1 : Int) = Int.ofNat ((1 : Nat)) ∧ (Pl.tmRd x_1).1.1 = ((Pl.tmRd (Pl.cutA s Pl.eqSgn)).1, (Pl.tmRd (Pl.cutR s Pl.eqSgn)).1, Pl.noT, Pl.noI, (0 : Int), false).1.1 ∧ ((0 : Nat) = (0 : Nat) ∧ (Pl.tmRd x_1).1.2.length =
 ((Pl.tmRd (Pl.cutA s Pl.eqSgn)).1, (Pl.tmRd (Pl.cutR s Pl.eqSgn)).1, Pl.noT, Pl.noI, (0 : Int), false).1.2.length) ∧ (Pl.tmRd x_2).1.1 = ((Pl.tmRd (Pl.cutR s Pl.eqSgn)).1, Pl.noT, Pl.noI, (0 : Int), false).1.1 ∧ ((0 : Nat) = (0 : Nat) ∧ (Pl.tmRd x_2).1.2.length = ((Pl.tmRd (Pl.cutR s Pl.eqSgn)).1, Pl.noT, Pl.noI, (0 : Int), false).1.2.length) ∧ ((0 : Nat) = (0 : Nat) ∧ (0 : Nat) = (0 : Nat) ∧ (0 : Nat) = (0 : Nat)) ∧ ((0 : Nat) = (0 : Nat) ∧ (0 : Nat) = (0 : Nat) ∧ (0 : Nat) = (0 : Nat)) ∧ (0 : Int) = Int.ofNat ((0 : Nat)) ∧ false = false ∧ True) ∧ false = Pl.eqK s ∧ True) ∧ True) ∧ IsO (xrT (Pl.tmRd x_1).1.2)
 (xrT ((Pl.tmRd (Pl.cutA s Pl.eqSgn)).1, (Pl.tmRd (Pl.cutR s Pl.eqSgn)).1, Pl.noT, Pl.noI, (0 : Int), false).1.2) ∧ IsO (xrT (Pl.tmRd x_2).1.2) (xrT ((Pl.tmRd (Pl.cutR s Pl.eqSgn)).1, Pl.noT, Pl.noI, (0 : Int), false).1.2) ∧ (0 : Nat) = (0 : Nat) ∧ (0 : Nat) = (0 : Nat) ∧ True))
 (∃ y : Unit,
 True ∧ ((((1 : Int) = Int.ofNat ((1 : Nat)) ∧ (Pl.tmRd x_1).1.1 = ((Pl.tmRd (Pl.cutA s Pl.eqSgn)).1, (Pl.tmRd (Pl.cutR s Pl.eqSgn)).1, Pl.noT, Pl.noI, (0 : Int), false).1.1 ∧ ((0 : Nat) = (0 : Nat) ∧ (Pl.tmRd x_1).1.2.length =
 ((Pl.tmRd (Pl.cutA s Pl.eqSgn)).1, (Pl.tmRd (Pl.cutR s Pl.eqSgn)).1, Pl.noT, Pl.noI, (0 : Int), false).1.2.length) ∧ (Pl.tmRd x_2).1.1 = ((Pl.tmRd (Pl.cutR s Pl.eqSgn)).1, Pl.noT, Pl.noI, (0 : Int), false).1.1 ∧ ((0 : Nat) = (0 : Nat) ∧ (Pl.tmRd x_2).1.2.length = ((Pl.tmRd (Pl.cutR s Pl.eqSgn)).1, Pl.noT, Pl.noI, (0 : Int), false).1.2.length) ∧ ((0 : Nat) = (0 : Nat) ∧ (0 : Nat) = (0 : Nat) ∧ (0 : Nat) = (0 : Nat)) ∧ ((0 : Nat) = (0 : Nat) ∧ (0 : Nat) = (0 : Nat) ∧ (0 : Nat) = (0 : Nat)) ∧ (0 : Int) = Int.ofNat ((0 : Nat)) ∧ false = false ∧ True) ∧ false = Pl.eqK s ∧ True) ∧ True) ∧ IsO (xrT (Pl.tmRd x_1).1.2)
 (xrT ((Pl.tmRd (Pl.cutA s Pl.eqSgn)).1, (Pl.tmRd (Pl.cutR s Pl.eqSgn)).1, Pl.noT, Pl.noI, (0 : Int), false).1.2) ∧ IsO (xrT (Pl.tmRd x_2).1.2) (xrT ((Pl.tmRd (Pl.cutR s Pl.eqSgn)).1, Pl.noT, Pl.noI, (0 : Int), false).1.2) ∧ (0 : Nat) = (0 : Nat) ∧ (0 : Nat) = (0 : Nat) ∧ True)) = Goal Tryz.prog [K_Cut, K_iTermReadO] ([]) K_readEqO.1 K_readEqO.2 (s) := by kernel_rfl

theorem vc_readSumO (s : ByteArray) : (∃ x : ByteArray × UInt8,
 (s = x.1 ∧ ByteArray.mk #[(32 : UInt8)] = Pl.mkB [x.2] ∧ True) ∧ x.1.size.le (4294967280 : Nat) ∧ ∃ x_1 : Int × Int × Int,
 (IntKind.i64.wrap (IntKind.i64.wrap ((↑(Pl.cut x.2 x.1).length : Int) - (1 : Int)) - (1 : Int)) = x_1.1 ∧ (1 : Int) = x_1.2.1 ∧ (4 : Int) = x_1.2.2 ∧ True) ∧ True ∧ condP (!Pl.withinI x_1.1 x_1.2.1 x_1.2.2)
 (∃ y : Unit,
 True ∧ ((((0 : Int) = (Pl.sumI s).1.1 ∧ ByteArray.mk #[] = (Pl.sumI s).1.2.1.1 ∧ ((0 : Nat) = (0 : Nat) ∧ (0 : Nat) = (0 : Nat) ∧ (Pl.sumI s).1.2.1.2.length = (0 : Nat)) ∧ ByteArray.mk #[] = (Pl.sumI s).1.2.2.1.1 ∧ ((0 : Nat) = (0 : Nat) ∧ (0 : Nat) = (0 : Nat) ∧ (Pl.sumI s).1.2.2.1.2.length = (0 : Nat)) ∧ ((0 : Nat) = (0 : Nat) ∧ (0 : Nat) = (0 : Nat) ∧ (Pl.sumI s).1.2.2.2.1.length = (0 : Nat)) ∧ ((0 : Nat) = (0 : Nat) ∧ (0 : Nat) = (0 : Nat) ∧ (Pl.sumI s).1.2.2.2.2.1.length = (0 : Nat)) ∧ (0 : Int) = (Pl.sumI s).1.2.2.2.2.2.1 ∧ false = (Pl.sumI s).1.2.2.2.2.2.2 ∧ True) ∧ false = (Pl.sumI s).2 ∧ True) ∧ True) ∧ (Pl.sumI s).1.2.1.2.length = (0 : Nat) ∧ (Pl.sumI s).1.2.2.1.2.length = (0 : Nat) ∧ (Pl.sumI s).1.2.2.2.1.length = (0 : Nat) ∧ (Pl.sumI s).1.2.2.2.2.1.length = (0 : Nat) ∧ True)
 (((0 : Int) ≤ IntKind.i64.wrap (IntKind.i64.wrap ((↑(Pl.cut x.2 x.1).length : Int) - (1 : Int)) - (1 : Int)) ∧ IntKind.i64.wrap (IntKind.i64.wrap ((↑(Pl.cut x.2 x.1).length : Int) - (1 : Int)) - (1 : Int)) < (↑(Pl.cut x.2 x.1).length : Int)) ∧ (IntKind.i64.wrap (IntKind.i64.wrap ((↑(Pl.cut x.2 x.1).length : Int) - (1 : Int)) - (1 : Int))).toNat < (Pl.cut x.2 x.1).length ∧ ((0 : Int) ≤ IntKind.i64.wrap ((↑(Pl.cut x.2 x.1).length : Int) - (1 : Int)) ∧ IntKind.i64.wrap ((↑(Pl.cut x.2 x.1).length : Int) - (1 : Int)) < (↑(Pl.cut x.2 x.1).length : Int)) ∧ (IntKind.i64.wrap ((↑(Pl.cut x.2 x.1).length : Int) - (1 : Int))).toNat < (Pl.cut x.2 x.1).length ∧ ∃ x_2 : ByteArray,
 ((Pl.cut x.2 x.1).getD (IntKind.i64.wrap ((↑(Pl.cut x.2 x.1).length : Int) - (1 : Int))).toNat ByteArray.empty = x_2 ∧ True) ∧ x_2.size.le (4294967280 : Nat) ∧ ((0 : Int) ≤ IntKind.i64.wrap (IntKind.i64.wrap ((↑(Pl.cut x.2 x.1).length : Int) - (1 : Int)) - (1 : Int)) ∧ IntKind.i64.wrap (IntKind.i64.wrap ((↑(Pl.cut x.2 x.1).length : Int) - (1 : Int)) - (1 : Int)) ≤ (↑(Pl.cut x.2 x.1).length : Int)) ∧ (∃ x_3 : Nat,
 (x_3 ≤ (Pl.cut (32 : UInt8) s).length - (2 : Nat) ∧ ((3 : Nat) ≤ (Pl.cut (32 : UInt8) s).length ∧ (Pl.cut (32 : UInt8) s).length ≤ (6 : Nat)) ∧ Pl.allI (List.take x_3 (Pl.cut (32 : UInt8) s)) = true) ∧ ((0 : Nat) = (0 : Nat) ∧ (0 : Nat) = (0 : Nat) ∧ Is
 (AV.sl (IntKind.i64.wrap (IntKind.i64.wrap ((↑(Pl.cut x.2 x.1).length : Int) - (1 : Int)) - (1 : Int))).toNat (1 : Nat)
 (cS (Pl.cut x.2 x.1)))
 (strs (List.take ((Pl.cut (32 : UInt8) s).length - (2 : Nat)) (Pl.cut (32 : UInt8) s))) ∧ (↑(IntKind.i64.wrap (IntKind.i64.wrap ((↑(Pl.cut x.2 x.1).length : Int) - (1 : Int)) - (1 : Int))).toNat : Int) =
 (↑((Pl.cut (32 : UInt8) s).length - (2 : Nat)) : Int) ∧ (0 : Int) = (↑x_3 : Int) ∧ True) ∧ ((0 : Int) = (0 : Int) ∧ ByteArray.mk #[] = ByteArray.empty ∧ Is (AV.lit (0 : Nat) (1 : Nat) fun (x x_4 : Nat) => AV.any) nilA ∧ ByteArray.mk #[] = ByteArray.empty ∧ Is (AV.lit (0 : Nat) (1 : Nat) fun (x x_4 : Nat) => AV.any) nilA ∧ Is (AV.lit (0 : Nat) (1 : Nat) fun (x x_4 : Nat) => AV.any) nilA ∧ Is (AV.lit (0 : Nat) (1 : Nat) fun (x x_4 : Nat) => AV.any) nilA ∧ (0 : Int) = (0 : Int) ∧ false = false ∧ True) ∧ ((2 : Int) = (2 : Int) ∧ ByteArray.mk #[] = ByteArray.empty ∧ Is (AV.lit (0 : Nat) (1 : Nat) fun (x x_4 : Nat) => AV.any) nilA ∧ ByteArray.mk #[] = ByteArray.empty ∧ Is (AV.lit (0 : Nat) (1 : Nat) fun (x x_4 : Nat) => AV.any) nilA ∧ ((0 : Nat) = (0 : Nat) ∧ (0 : Nat) = (0 : Nat) ∧ x_3 = (0 : Nat)) ∧ ((0 : Nat) = (0 : Nat) ∧ (0 : Nat) = (0 : Nat) ∧ x_3 = (0 : Nat)) ∧ Pl.atoi x_2 = Pl.atoi (Pl.pq (Pl.cut (32 : UInt8) s) ((Pl.cut (32 : UInt8) s).length - (1 : Nat))) ∧ (((Pl.cut x.2 x.1).getD (IntKind.i64.wrap (IntKind.i64.wrap ((↑(Pl.cut x.2 x.1).length : Int) - (1 : Int)) - (1 : Int))).toNat
 ByteArray.empty).toList ==
 (ByteArray.mk #[(60 : UInt8)]).toList) =
 decide (Pl.pq (Pl.cut (32 : UInt8) s) ((Pl.cut (32 : UInt8) s).length - (2 : Nat)) = Pl.mkB [(60 : UInt8)]) ∧ True) ∧ (Pl.numsI (List.take x_3 (Pl.cut (32 : UInt8) s))).length = (0 : Nat) ∧ (Pl.timesI (List.take x_3 (Pl.cut (32 : UInt8) s))).length = (0 : Nat) ∧ True) ∧ ∀ (x : Nat),
 x ≤ (Pl.cut (32 : UInt8) s).length - (2 : Nat) ∧ ((3 : Nat) ≤ (Pl.cut (32 : UInt8) s).length ∧ (Pl.cut (32 : UInt8) s).length ≤ (6 : Nat)) ∧ Pl.allI (List.take x (Pl.cut (32 : UInt8) s)) = true →
 condP (decide ((↑x : Int) < (↑((Pl.cut (32 : UInt8) s).length - (2 : Nat)) : Int)))
 (((0 : Int) ≤ (↑x : Int) ∧ (↑x : Int) < (↑(List.take ((Pl.cut (32 : UInt8) s).length - (2 : Nat)) (Pl.cut (32 : UInt8) s)).length : Int)) ∧ x < (List.take ((Pl.cut (32 : UInt8) s).length - (2 : Nat)) (Pl.cut (32 : UInt8) s)).length ∧ ∃ x_3 : ByteArray × ByteArray,
 ((List.take ((Pl.cut (32 : UInt8) s).length - (2 : Nat)) (Pl.cut (32 : UInt8) s)).getD x ByteArray.empty = x_3.1 ∧ ByteArray.mk #[(42 : UInt8)] = x_3.2 ∧ True) ∧ x_3.1.size.le (4294967280 : Nat) ∧ ∃ x_4 : ByteArray,
 (Pl.cutA x_3.1 x_3.2 = x_4 ∧ True) ∧ x_4.size.le (4294967280 : Nat) ∧ ∃ x_5 : ByteArray,
 x_5.size.le (1048576 : Nat) ∧ ((Pl.cutR x_3.1 x_3.2 = x_5 ∧ True) ∧ True) ∧ ∀ (y : Unit),
 True →
 condP (!(Pl.tmRd x_5).2)
 (∃ y : Unit,
 True ∧ ((((0 : Int) = (Pl.sumI s).1.1 ∧ ByteArray.mk #[] = (Pl.sumI s).1.2.1.1 ∧ ((0 : Nat) = (0 : Nat) ∧ (0 : Nat) = (0 : Nat) ∧ (Pl.sumI s).1.2.1.2.length = (0 : Nat)) ∧ ByteArray.mk #[] = (Pl.sumI s).1.2.2.1.1 ∧ ((0 : Nat) = (0 : Nat) ∧ (0 : Nat) = (0 : Nat) ∧ (Pl.sumI s).1.2.2.1.2.length = (0 : Nat)) ∧ ((0 : Nat) = (0 : Nat) ∧ (0 : Nat) = (0 : Nat) ∧ (Pl.sumI s).1.2.2.2.1.length = (0 : Nat)) ∧ ((0 : Nat) = (0 : Nat) ∧ (0 : Nat) = (0 : Nat) ∧ (Pl.sumI s).1.2.2.2.2.1.length = (0 : Nat)) ∧ (0 : Int) = (Pl.sumI s).1.2.2.2.2.2.1 ∧ false = (Pl.sumI s).1.2.2.2.2.2.2 ∧ True) ∧ false = (Pl.sumI s).2 ∧ True) ∧ True) ∧ (Pl.sumI s).1.2.1.2.length = (0 : Nat) ∧ (Pl.sumI s).1.2.2.1.2.length = (0 : Nat) ∧ (Pl.sumI s).1.2.2.2.1.length = (0 : Nat) ∧ (Pl.sumI s).1.2.2.2.2.1.length = (0 : Nat) ∧ True)
 (x = (Pl.numsI (List.take x (Pl.cut (32 : UInt8) s))).length ∧ (0 : Nat) + (Pl.tmRd x_5).1.2.length ≤ (Pl.tmRd x_5).1.2.length ∧ (x + (1 : Nat)) * (40 : Nat) ≤ (70368744177664 : Nat) ∧ (0 : Nat) + x ≤ (Pl.timesI (List.take x (Pl.cut (32 : UInt8) s))).length ∧ (x + (1 : Nat)) * (8 : Nat) ≤ (70368744177664 : Nat) ∧ Exists fun (x' : Nat) =>
 (x' ≤ (Pl.cut (32 : UInt8) s).length - (2 : Nat) ∧ ((3 : Nat) ≤ (Pl.cut (32 : UInt8) s).length ∧ (Pl.cut (32 : UInt8) s).length ≤ (6 : Nat)) ∧ Pl.allI (List.take x' (Pl.cut (32 : UInt8) s)) = true) ∧ (Pl.cut (32 : UInt8) s).length - (2 : Nat) - x' < (Pl.cut (32 : UInt8) s).length - (2 : Nat) - x ∧ ((0 : Nat) = (0 : Nat) ∧ (0 : Nat) = (0 : Nat) ∧ Is (strs (List.take ((Pl.cut (32 : UInt8) s).length - (2 : Nat)) (Pl.cut (32 : UInt8) s)))
 (strs (List.take ((Pl.cut (32 : UInt8) s).length - (2 : Nat)) (Pl.cut (32 : UInt8) s))) ∧ (↑((Pl.cut (32 : UInt8) s).length - (2 : Nat)) : Int) =
 (↑((Pl.cut (32 : UInt8) s).length - (2 : Nat)) : Int) ∧ IntKind.i64.wrap ((↑x : Int) + (1 : Int)) = (↑x' : Int) ∧ True) ∧ ((0 : Int) = (0 : Int) ∧ ByteArray.empty = ByteArray.empty ∧ Is (AV.lit (0 : Nat) (1 : Nat) fun (x x_6 : Nat) => AV.any) nilA ∧ ByteArray.empty = ByteArray.empty ∧ Is (AV.lit (0 : Nat) (1 : Nat) fun (x x_6 : Nat) => AV.any) nilA ∧ Is (AV.lit (0 : Nat) (1 : Nat) fun (x x_6 : Nat) => AV.any) nilA ∧ Is (AV.lit (0 : Nat) (1 : Nat) fun (x x_6 : Nat) => AV.any) nilA ∧ (0 : Int) = (0 : Int) ∧ false = false ∧ True) ∧ ((2 : Int) = (2 : Int) ∧ ByteArray.empty = ByteArray.empty ∧ Is (AV.lit (0 : Nat) (1 : Nat) fun (x x_6 : Nat) => AV.any) nilA ∧ ByteArray.empty = ByteArray.empty ∧ Is (AV.lit (0 : Nat) (1 : Nat) fun (x x_6 : Nat) => AV.any) nilA ∧ ((0 : Nat) = (0 : Nat) ∧ x + (1 : Nat) = x') ∧ ((0 : Nat) = (0 : Nat) ∧ x + (1 : Nat) = x') ∧ Pl.atoi (Pl.pq (Pl.cut (32 : UInt8) s) ((Pl.cut (32 : UInt8) s).length - (1 : Nat))) =
 Pl.atoi (Pl.pq (Pl.cut (32 : UInt8) s) ((Pl.cut (32 : UInt8) s).length - (1 : Nat))) ∧ decide
 (Pl.pq (Pl.cut (32 : UInt8) s) ((Pl.cut (32 : UInt8) s).length - (2 : Nat)) =
 Pl.mkB [(60 : UInt8)]) =
 decide
 (Pl.pq (Pl.cut (32 : UInt8) s) ((Pl.cut (32 : UInt8) s).length - (2 : Nat)) =
 Pl.mkB [(60 : UInt8)]) ∧ True) ∧ IsO
 (AObj.xarr (x + (1 : Nat)) (2 : Nat)
 (joinC x (cT (Pl.numsI (List.take x (Pl.cut (32 : UInt8) s))))
 (rowsCell [[st (Pl.tmRd x_5).1.1, terms (Pl.tmRd x_5).1.2]])))
 (xrT (Pl.numsI (List.take x' (Pl.cut (32 : UInt8) s)))) ∧ IsO
 (AObj.arr (x + (1 : Nat)) (1 : Nat)
 (joinC x (cI (Pl.timesI (List.take x (Pl.cut (32 : UInt8) s))))
 (rowsCell [[i64 (Pl.atoi x_4)]])))
 (arI (Pl.timesI (List.take x' (Pl.cut (32 : UInt8) s)))) ∧ True))
 (∃ y : Unit,
 True ∧ ((((2 : Int) = (Pl.sumI s).1.1 ∧ ByteArray.empty = (Pl.sumI s).1.2.1.1 ∧ ((0 : Nat) = (0 : Nat) ∧ (0 : Nat) = (0 : Nat) ∧ (Pl.sumI s).1.2.1.2.length = (0 : Nat)) ∧ ByteArray.empty = (Pl.sumI s).1.2.2.1.1 ∧ ((0 : Nat) = (0 : Nat) ∧ (0 : Nat) = (0 : Nat) ∧ (Pl.sumI s).1.2.2.1.2.length = (0 : Nat)) ∧ ((0 : Nat) = (0 : Nat) ∧ x = (Pl.sumI s).1.2.2.2.1.length) ∧ ((0 : Nat) = (0 : Nat) ∧ x = (Pl.sumI s).1.2.2.2.2.1.length) ∧ Pl.atoi (Pl.pq (Pl.cut (32 : UInt8) s) ((Pl.cut (32 : UInt8) s).length - (1 : Nat))) = (Pl.sumI s).1.2.2.2.2.2.1 ∧ decide (Pl.pq (Pl.cut (32 : UInt8) s) ((Pl.cut (32 : UInt8) s).length - (2 : Nat)) = Pl.mkB [(60 : UInt8)]) =
 (Pl.sumI s).1.2.2.2.2.2.2 ∧ True) ∧ true = (Pl.sumI s).2 ∧ True) ∧ True) ∧ (Pl.sumI s).1.2.1.2.length = (0 : Nat) ∧ (Pl.sumI s).1.2.2.1.2.length = (0 : Nat) ∧ IsO (xrT (Pl.numsI (List.take x (Pl.cut (32 : UInt8) s)))) (xrT (Pl.sumI s).1.2.2.2.1) ∧ IsO (arI (Pl.timesI (List.take x (Pl.cut (32 : UInt8) s)))) (arI (Pl.sumI s).1.2.2.2.2.1) ∧ True))) = Goal Tryz.prog [K_Split, K_within, K_Atoi, K_Cut, K_iTermReadO] (A_readSumO s) K_readSumO.1 K_readSumO.2 (s) := by kernel_rfl

theorem vc_iAtomReadO (s : ByteArray) : (∃ x : ByteArray,
 x.size.le (1048576 : Nat) ∧ ((s = x ∧ True) ∧ True) ∧ ∀ (y : Unit),
 True →
 condP (!Pl.eqK x)
 (∃ x : ByteArray,
 x.size.le (1048576 : Nat) ∧ ((s = x ∧ True) ∧ True) ∧ ∀ (y : Unit),
 True →
 condP (!(Pl.sumI x).2)
 (∃ y : Unit,
 True ∧ ((((0 : Int) = (Pl.atomReadI s).1.1 ∧ ByteArray.mk #[] = (Pl.atomReadI s).1.2.1.1 ∧ ((0 : Nat) = (0 : Nat) ∧ (0 : Nat) = (0 : Nat) ∧ (Pl.atomReadI s).1.2.1.2.length = (0 : Nat)) ∧ ByteArray.mk #[] = (Pl.atomReadI s).1.2.2.1.1 ∧ ((0 : Nat) = (0 : Nat) ∧ (0 : Nat) = (0 : Nat) ∧ (Pl.atomReadI s).1.2.2.1.2.length = (0 : Nat)) ∧ ((0 : Nat) = (0 : Nat) ∧ (0 : Nat) = (0 : Nat) ∧ (Pl.atomReadI s).1.2.2.2.1.length = (0 : Nat)) ∧ ((0 : Nat) = (0 : Nat) ∧ (0 : Nat) = (0 : Nat) ∧ (Pl.atomReadI s).1.2.2.2.2.1.length = (0 : Nat)) ∧ (0 : Int) = (Pl.atomReadI s).1.2.2.2.2.2.1 ∧ false = (Pl.atomReadI s).1.2.2.2.2.2.2 ∧ True) ∧ false = (Pl.atomReadI s).2 ∧ True) ∧ True) ∧ (Pl.atomReadI s).1.2.1.2.length = (0 : Nat) ∧ (Pl.atomReadI s).1.2.2.1.2.length = (0 : Nat) ∧ (Pl.atomReadI s).1.2.2.2.1.length = (0 : Nat) ∧ (Pl.atomReadI s).1.2.2.2.2.1.length = (0 : Nat) ∧ True)
 ((0 : Nat) + (Pl.sumI x).1.2.1.2.length ≤ (Pl.sumI x).1.2.1.2.length ∧ (0 : Nat) + (Pl.sumI x).1.2.2.1.2.length ≤ (Pl.sumI x).1.2.2.1.2.length ∧ (0 : Nat) + (Pl.sumI x).1.2.2.2.1.length ≤ (Pl.sumI x).1.2.2.2.1.length ∧ (0 : Nat) + (Pl.sumI x).1.2.2.2.2.1.length ≤ (Pl.sumI x).1.2.2.2.2.1.length ∧ ∃ x_1 : Pl.Atm,
 (((Pl.sumI x).1.1 = x_1.1 ∧ (Pl.sumI x).1.2.1.1 = x_1.2.1.1 ∧ Is (terms (Pl.sumI x).1.2.1.2) (terms x_1.2.1.2) ∧ (Pl.sumI x).1.2.2.1.1 = x_1.2.2.1.1 ∧ Is (terms (Pl.sumI x).1.2.2.1.2) (terms x_1.2.2.1.2) ∧ Is (terms (Pl.sumI x).1.2.2.2.1) (terms x_1.2.2.2.1) ∧ Is (ints (Pl.sumI x).1.2.2.2.2.1) (ints x_1.2.2.2.2.1) ∧ (Pl.sumI x).1.2.2.2.2.2.1 = x_1.2.2.2.2.2.1 ∧ (Pl.sumI x).1.2.2.2.2.2.2 = x_1.2.2.2.2.2.2 ∧ True) ∧ True) ∧ SmA x_1 ∧ condP (!Pl.atomRight x_1)
 (∃ y : Unit,
 True ∧ ((((0 : Int) = (Pl.atomReadI s).1.1 ∧ ByteArray.mk #[] = (Pl.atomReadI s).1.2.1.1 ∧ ((0 : Nat) = (0 : Nat) ∧ (0 : Nat) = (0 : Nat) ∧ (Pl.atomReadI s).1.2.1.2.length = (0 : Nat)) ∧ ByteArray.mk #[] = (Pl.atomReadI s).1.2.2.1.1 ∧ ((0 : Nat) = (0 : Nat) ∧ (0 : Nat) = (0 : Nat) ∧ (Pl.atomReadI s).1.2.2.1.2.length = (0 : Nat)) ∧ ((0 : Nat) = (0 : Nat) ∧ (0 : Nat) = (0 : Nat) ∧ (Pl.atomReadI s).1.2.2.2.1.length = (0 : Nat)) ∧ ((0 : Nat) = (0 : Nat) ∧ (0 : Nat) = (0 : Nat) ∧ (Pl.atomReadI s).1.2.2.2.2.1.length = (0 : Nat)) ∧ (0 : Int) = (Pl.atomReadI s).1.2.2.2.2.2.1 ∧ false = (Pl.atomReadI s).1.2.2.2.2.2.2 ∧ True) ∧ false = (Pl.atomReadI s).2 ∧ True) ∧ True) ∧ (Pl.atomReadI s).1.2.1.2.length = (0 : Nat) ∧ (Pl.atomReadI s).1.2.2.1.2.length = (0 : Nat) ∧ (Pl.atomReadI s).1.2.2.2.1.length = (0 : Nat) ∧ (Pl.atomReadI s).1.2.2.2.2.1.length = (0 : Nat) ∧ True)
 ((0 : Nat) + (Pl.sumI x).1.2.1.2.length ≤ (Pl.sumI x).1.2.1.2.length ∧ (0 : Nat) + (Pl.sumI x).1.2.2.1.2.length ≤ (Pl.sumI x).1.2.2.1.2.length ∧ (0 : Nat) + (Pl.sumI x).1.2.2.2.1.length ≤ (Pl.sumI x).1.2.2.2.1.length ∧ (0 : Nat) + (Pl.sumI x).1.2.2.2.2.1.length ≤ (Pl.sumI x).1.2.2.2.2.1.length ∧ ∃ x_2 : Pl.Atm,
 (((Pl.sumI x).1.1 = x_2.1 ∧ (Pl.sumI x).1.2.1.1 = x_2.2.1.1 ∧ Is (terms (Pl.sumI x).1.2.1.2) (terms x_2.2.1.2) ∧ (Pl.sumI x).1.2.2.1.1 = x_2.2.2.1.1 ∧ Is (terms (Pl.sumI x).1.2.2.1.2) (terms x_2.2.2.1.2) ∧ Is (terms (Pl.sumI x).1.2.2.2.1) (terms x_2.2.2.2.1) ∧ Is (ints (Pl.sumI x).1.2.2.2.2.1) (ints x_2.2.2.2.2.1) ∧ (Pl.sumI x).1.2.2.2.2.2.1 = x_2.2.2.2.2.2.1 ∧ (Pl.sumI x).1.2.2.2.2.2.2 = x_2.2.2.2.2.2.2 ∧ True) ∧ True) ∧ (SmA x_2 ∧ Pl.atomRight x_2 = true) ∧ condP (!(Pl.mkB (Pl.atomB x_2)).toList == s.toList)
 (∃ y : Unit,
 True ∧ ((((0 : Int) = (Pl.atomReadI s).1.1 ∧ ByteArray.mk #[] = (Pl.atomReadI s).1.2.1.1 ∧ ((0 : Nat) = (0 : Nat) ∧ (0 : Nat) = (0 : Nat) ∧ (Pl.atomReadI s).1.2.1.2.length = (0 : Nat)) ∧ ByteArray.mk #[] = (Pl.atomReadI s).1.2.2.1.1 ∧ ((0 : Nat) = (0 : Nat) ∧ (0 : Nat) = (0 : Nat) ∧ (Pl.atomReadI s).1.2.2.1.2.length = (0 : Nat)) ∧ ((0 : Nat) = (0 : Nat) ∧ (0 : Nat) = (0 : Nat) ∧ (Pl.atomReadI s).1.2.2.2.1.length = (0 : Nat)) ∧ ((0 : Nat) = (0 : Nat) ∧ (0 : Nat) = (0 : Nat) ∧ (Pl.atomReadI s).1.2.2.2.2.1.length = (0 : Nat)) ∧ (0 : Int) = (Pl.atomReadI s).1.2.2.2.2.2.1 ∧ false = (Pl.atomReadI s).1.2.2.2.2.2.2 ∧ True) ∧ false = (Pl.atomReadI s).2 ∧ True) ∧ True) ∧ (Pl.atomReadI s).1.2.1.2.length = (0 : Nat) ∧ (Pl.atomReadI s).1.2.2.1.2.length = (0 : Nat) ∧ (Pl.atomReadI s).1.2.2.2.1.length = (0 : Nat) ∧ (Pl.atomReadI s).1.2.2.2.2.1.length = (0 : Nat) ∧ True)
 (∃ y : Unit,
 True ∧ ((((Pl.sumI x).1.1 = (Pl.atomReadI s).1.1 ∧ (Pl.sumI x).1.2.1.1 = (Pl.atomReadI s).1.2.1.1 ∧ ((0 : Nat) = (0 : Nat) ∧ (Pl.sumI x).1.2.1.2.length = (Pl.atomReadI s).1.2.1.2.length) ∧ (Pl.sumI x).1.2.2.1.1 = (Pl.atomReadI s).1.2.2.1.1 ∧ ((0 : Nat) = (0 : Nat) ∧ (Pl.sumI x).1.2.2.1.2.length = (Pl.atomReadI s).1.2.2.1.2.length) ∧ ((0 : Nat) = (0 : Nat) ∧ (Pl.sumI x).1.2.2.2.1.length = (Pl.atomReadI s).1.2.2.2.1.length) ∧ ((0 : Nat) = (0 : Nat) ∧ (Pl.sumI x).1.2.2.2.2.1.length = (Pl.atomReadI s).1.2.2.2.2.1.length) ∧ (Pl.sumI x).1.2.2.2.2.2.1 = (Pl.atomReadI s).1.2.2.2.2.2.1 ∧ (Pl.sumI x).1.2.2.2.2.2.2 = (Pl.atomReadI s).1.2.2.2.2.2.2 ∧ True) ∧ true = (Pl.atomReadI s).2 ∧ True) ∧ True) ∧ IsO (xrT (Pl.sumI x).1.2.1.2) (xrT (Pl.atomReadI s).1.2.1.2) ∧ IsO (xrT (Pl.sumI x).1.2.2.1.2) (xrT (Pl.atomReadI s).1.2.2.1.2) ∧ IsO (xrT (Pl.sumI x).1.2.2.2.1) (xrT (Pl.atomReadI s).1.2.2.2.1) ∧ IsO (arI (Pl.sumI x).1.2.2.2.2.1) (arI (Pl.atomReadI s).1.2.2.2.2.1) ∧ True))))
 (condP (!Pl.eqK x)
 (∃ y : Unit,
 True ∧ ((((0 : Int) = (Pl.atomReadI s).1.1 ∧ ByteArray.mk #[] = (Pl.atomReadI s).1.2.1.1 ∧ ((0 : Nat) = (0 : Nat) ∧ (0 : Nat) = (0 : Nat) ∧ (Pl.atomReadI s).1.2.1.2.length = (0 : Nat)) ∧ ByteArray.mk #[] = (Pl.atomReadI s).1.2.2.1.1 ∧ ((0 : Nat) = (0 : Nat) ∧ (0 : Nat) = (0 : Nat) ∧ (Pl.atomReadI s).1.2.2.1.2.length = (0 : Nat)) ∧ ((0 : Nat) = (0 : Nat) ∧ (0 : Nat) = (0 : Nat) ∧ (Pl.atomReadI s).1.2.2.2.1.length = (0 : Nat)) ∧ ((0 : Nat) = (0 : Nat) ∧ (0 : Nat) = (0 : Nat) ∧ (Pl.atomReadI s).1.2.2.2.2.1.length = (0 : Nat)) ∧ (0 : Int) = (Pl.atomReadI s).1.2.2.2.2.2.1 ∧ false = (Pl.atomReadI s).1.2.2.2.2.2.2 ∧ True) ∧ false = (Pl.atomReadI s).2 ∧ True) ∧ True) ∧ (Pl.atomReadI s).1.2.1.2.length = (0 : Nat) ∧ (Pl.atomReadI s).1.2.2.1.2.length = (0 : Nat) ∧ (Pl.atomReadI s).1.2.2.2.1.length = (0 : Nat) ∧ (Pl.atomReadI s).1.2.2.2.2.1.length = (0 : Nat) ∧ True)
 ((0 : Nat) + ((Pl.tmRd (Pl.cutA x Pl.eqSgn)).1, (Pl.tmRd (Pl.cutR x Pl.eqSgn)).1, Pl.noT, Pl.noI, (0 : Int), false).1.2.length ≤
 ((Pl.tmRd (Pl.cutA x Pl.eqSgn)).1, (Pl.tmRd (Pl.cutR x Pl.eqSgn)).1, Pl.noT, Pl.noI, (0 : Int), false).1.2.length ∧ (0 : Nat) + ((Pl.tmRd (Pl.cutR x Pl.eqSgn)).1, Pl.noT, Pl.noI, (0 : Int), false).1.2.length ≤
 ((Pl.tmRd (Pl.cutR x Pl.eqSgn)).1, Pl.noT, Pl.noI, (0 : Int), false).1.2.length ∧ (0 : Nat) ≤ (0 : Nat) ∧ (0 : Nat) ≤ (0 : Nat) ∧ ∃ x_1 : Pl.Atm,
 ((Int.ofNat ((1 : Nat)) = x_1.1 ∧ ((Pl.tmRd (Pl.cutA x Pl.eqSgn)).1, (Pl.tmRd (Pl.cutR x Pl.eqSgn)).1, Pl.noT, Pl.noI, (0 : Int), false).1.1 = x_1.2.1.1 ∧ Is (terms ((Pl.tmRd (Pl.cutA x Pl.eqSgn)).1, (Pl.tmRd (Pl.cutR x Pl.eqSgn)).1, Pl.noT, Pl.noI, (0 : Int), false).1.2) (terms x_1.2.1.2) ∧ ((Pl.tmRd (Pl.cutR x Pl.eqSgn)).1, Pl.noT, Pl.noI, (0 : Int), false).1.1 = x_1.2.2.1.1 ∧ Is (terms ((Pl.tmRd (Pl.cutR x Pl.eqSgn)).1, Pl.noT, Pl.noI, (0 : Int), false).1.2) (terms x_1.2.2.1.2) ∧ Is (AV.sl ((0 : Nat)) (2 : Nat) fun (i j : Nat) => eT (Pl.Tree.mk ByteArray.empty []) j) (terms x_1.2.2.2.1) ∧ Is (AV.sl ((0 : Nat)) (1 : Nat) fun (i j : Nat) => i64 (Int.ofNat ((0 : Nat)))) (ints x_1.2.2.2.2.1) ∧ Int.ofNat ((0 : Nat)) = x_1.2.2.2.2.2.1 ∧ false = x_1.2.2.2.2.2.2 ∧ True) ∧ True) ∧ SmA x_1 ∧ condP (!Pl.atomRight x_1)
 (∃ y : Unit,
 True ∧ ((((0 : Int) = (Pl.atomReadI s).1.1 ∧ ByteArray.mk #[] = (Pl.atomReadI s).1.2.1.1 ∧ ((0 : Nat) = (0 : Nat) ∧ (0 : Nat) = (0 : Nat) ∧ (Pl.atomReadI s).1.2.1.2.length = (0 : Nat)) ∧ ByteArray.mk #[] = (Pl.atomReadI s).1.2.2.1.1 ∧ ((0 : Nat) = (0 : Nat) ∧ (0 : Nat) = (0 : Nat) ∧ (Pl.atomReadI s).1.2.2.1.2.length = (0 : Nat)) ∧ ((0 : Nat) = (0 : Nat) ∧ (0 : Nat) = (0 : Nat) ∧ (Pl.atomReadI s).1.2.2.2.1.length = (0 : Nat)) ∧ ((0 : Nat) = (0 : Nat) ∧ (0 : Nat) = (0 : Nat) ∧ (Pl.atomReadI s).1.2.2.2.2.1.length = (0 : Nat)) ∧ (0 : Int) = (Pl.atomReadI s).1.2.2.2.2.2.1 ∧ false = (Pl.atomReadI s).1.2.2.2.2.2.2 ∧ True) ∧ false = (Pl.atomReadI s).2 ∧ True) ∧ True) ∧ (Pl.atomReadI s).1.2.1.2.length = (0 : Nat) ∧ (Pl.atomReadI s).1.2.2.1.2.length = (0 : Nat) ∧ (Pl.atomReadI s).1.2.2.2.1.length = (0 : Nat) ∧ (Pl.atomReadI s).1.2.2.2.2.1.length = (0 : Nat) ∧ True)
 ((0 : Nat) + ((Pl.tmRd (Pl.cutA x Pl.eqSgn)).1, (Pl.tmRd (Pl.cutR x Pl.eqSgn)).1, Pl.noT, Pl.noI, (0 : Int), false).1.2.length ≤
 ((Pl.tmRd (Pl.cutA x Pl.eqSgn)).1, (Pl.tmRd (Pl.cutR x Pl.eqSgn)).1, Pl.noT, Pl.noI, (0 : Int), false).1.2.length ∧ (0 : Nat) + ((Pl.tmRd (Pl.cutR x Pl.eqSgn)).1, Pl.noT, Pl.noI, (0 : Int), false).1.2.length ≤
 ((Pl.tmRd (Pl.cutR x Pl.eqSgn)).1, Pl.noT, Pl.noI, (0 : Int), false).1.2.length ∧ (0 : Nat) ≤ (0 : Nat) ∧ (0 : Nat) ≤ (0 : Nat) ∧ ∃ x_2 : Pl.Atm,
 ((Int.ofNat ((1 : Nat)) = x_2.1 ∧ ((Pl.tmRd (Pl.cutA x Pl.eqSgn)).1, (Pl.tmRd (Pl.cutR x Pl.eqSgn)).1, Pl.noT, Pl.noI, (0 : Int), false).1.1 = x_2.2.1.1 ∧ Is (terms ((Pl.tmRd (Pl.cutA x Pl.eqSgn)).1, (Pl.tmRd (Pl.cutR x Pl.eqSgn)).1, Pl.noT, Pl.noI, (0 : Int), false).1.2)
 (terms x_2.2.1.2) ∧ ((Pl.tmRd (Pl.cutR x Pl.eqSgn)).1, Pl.noT, Pl.noI, (0 : Int), false).1.1 = x_2.2.2.1.1 ∧ Is (terms ((Pl.tmRd (Pl.cutR x Pl.eqSgn)).1, Pl.noT, Pl.noI, (0 : Int), false).1.2) (terms x_2.2.2.1.2) ∧ Is (AV.sl ((0 : Nat)) (2 : Nat) fun (i j : Nat) => eT (Pl.Tree.mk ByteArray.empty []) j) (terms x_2.2.2.2.1) ∧ Is (AV.sl ((0 : Nat)) (1 : Nat) fun (i j : Nat) => i64 (Int.ofNat ((0 : Nat)))) (ints x_2.2.2.2.2.1) ∧ Int.ofNat ((0 : Nat)) = x_2.2.2.2.2.2.1 ∧ false = x_2.2.2.2.2.2.2 ∧ True) ∧ True) ∧ (SmA x_2 ∧ Pl.atomRight x_2 = true) ∧ condP (!(Pl.mkB (Pl.atomB x_2)).toList == s.toList)
 (∃ y : Unit,
 True ∧ ((((0 : Int) = (Pl.atomReadI s).1.1 ∧ ByteArray.mk #[] = (Pl.atomReadI s).1.2.1.1 ∧ ((0 : Nat) = (0 : Nat) ∧ (0 : Nat) = (0 : Nat) ∧ (Pl.atomReadI s).1.2.1.2.length = (0 : Nat)) ∧ ByteArray.mk #[] = (Pl.atomReadI s).1.2.2.1.1 ∧ ((0 : Nat) = (0 : Nat) ∧ (0 : Nat) = (0 : Nat) ∧ (Pl.atomReadI s).1.2.2.1.2.length = (0 : Nat)) ∧ ((0 : Nat) = (0 : Nat) ∧ (0 : Nat) = (0 : Nat) ∧ (Pl.atomReadI s).1.2.2.2.1.length = (0 : Nat)) ∧ ((0 : Nat) = (0 : Nat) ∧ (0 : Nat) = (0 : Nat) ∧ (Pl.atomReadI s).1.2.2.2.2.1.length = (0 : Nat)) ∧ (0 : Int) = (Pl.atomReadI s).1.2.2.2.2.2.1 ∧ false = (Pl.atomReadI s).1.2.2.2.2.2.2 ∧ True) ∧ false = (Pl.atomReadI s).2 ∧ True) ∧ True) ∧ (Pl.atomReadI s).1.2.1.2.length = (0 : Nat) ∧ (Pl.atomReadI s).1.2.2.1.2.length = (0 : Nat) ∧ (Pl.atomReadI s).1.2.2.2.1.length = (0 : Nat) ∧ (Pl.atomReadI s).1.2.2.2.2.1.length = (0 : Nat) ∧ True)
 (∃ y : Unit,
 True ∧ (((Int.ofNat ((1 : Nat)) = (Pl.atomReadI s).1.1 ∧ ((Pl.tmRd (Pl.cutA x Pl.eqSgn)).1, (Pl.tmRd (Pl.cutR x Pl.eqSgn)).1, Pl.noT, Pl.noI, (0 : Int), false).1.1 =
 (Pl.atomReadI s).1.2.1.1 ∧ ((0 : Nat) = (0 : Nat) ∧ ((Pl.tmRd (Pl.cutA x Pl.eqSgn)).1, (Pl.tmRd (Pl.cutR x Pl.eqSgn)).1, Pl.noT, Pl.noI, (0 : Int), false).1.2.length =
 (Pl.atomReadI s).1.2.1.2.length) ∧ ((Pl.tmRd (Pl.cutR x Pl.eqSgn)).1, Pl.noT, Pl.noI, (0 : Int), false).1.1 = (Pl.atomReadI s).1.2.2.1.1 ∧ ((0 : Nat) = (0 : Nat) ∧ ((Pl.tmRd (Pl.cutR x Pl.eqSgn)).1, Pl.noT, Pl.noI, (0 : Int), false).1.2.length =
 (Pl.atomReadI s).1.2.2.1.2.length) ∧ ((0 : Nat) = (0 : Nat) ∧ (0 : Nat) = (Pl.atomReadI s).1.2.2.2.1.length) ∧ ((0 : Nat) = (0 : Nat) ∧ (0 : Nat) = (Pl.atomReadI s).1.2.2.2.2.1.length) ∧ Int.ofNat ((0 : Nat)) = (Pl.atomReadI s).1.2.2.2.2.2.1 ∧ false = (Pl.atomReadI s).1.2.2.2.2.2.2 ∧ True) ∧ true = (Pl.atomReadI s).2 ∧ True) ∧ True) ∧ IsO (xrT ((Pl.tmRd (Pl.cutA x Pl.eqSgn)).1, (Pl.tmRd (Pl.cutR x Pl.eqSgn)).1, Pl.noT, Pl.noI, (0 : Int), false).1.2)
 (xrT (Pl.atomReadI s).1.2.1.2) ∧ IsO (xrT ((Pl.tmRd (Pl.cutR x Pl.eqSgn)).1, Pl.noT, Pl.noI, (0 : Int), false).1.2)
 (xrT (Pl.atomReadI s).1.2.2.1.2) ∧ IsO (AObj.xarr ((0 : Nat)) (2 : Nat) fun (i j : Nat) => eT (Pl.Tree.mk ByteArray.empty []) j)
 (xrT (Pl.atomReadI s).1.2.2.2.1) ∧ IsO (AObj.arr ((0 : Nat)) (1 : Nat) fun (i j : Nat) => i64 (Int.ofNat ((0 : Nat))))
 (arI (Pl.atomReadI s).1.2.2.2.2.1) ∧ True))))) = Goal Tryz.prog [K_readEqO, K_readSumO, K_Atomok, K_atomText] ([]) K_iAtomReadO.1 K_iAtomReadO.2 (s) := by kernel_rfl

end Cg
