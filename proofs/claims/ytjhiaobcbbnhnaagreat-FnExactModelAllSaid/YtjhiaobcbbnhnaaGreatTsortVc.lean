/-
  What is left to show of each function's code, printed by a program: Tsort. No condition.
-/
import Derived.Test.YtjhiaobcbbnhnaaGreatTsortDefs
import Derived.Test.YtjhiaobcbbnhnaaGreatProg
set_option maxRecDepth 100000
set_option linter.unusedVariables false
namespace Cg
open Go Go.Proofs
theorem vc_l4Shape0 (x : Pl.TP) : (Bool.false = Pl.shape (0 : Nat) (Pl.Tree.mk x.fst x.snd)) = Goal Tryz.prog [K_sNameOk] ([]) (K_l4Shape 0).1 (K_l4Shape 0).2 (x) := by kernel_rfl

theorem vc_l4Shape (n : Nat) (x : Pl.TP) : (Exists fun (x_1 : ByteArray) =>
 (x.fst = x_1 ∧ True) ∧
 x_1.size ≤ (1048576 : Nat) ∧
 condP (!Pl.nameOk x_1) (Bool.false = Pl.shape (n + (1 : Nat)) (Pl.Tree.mk x.fst x.snd))
 (condP (Decidable.decide ((↑x.snd.length : Int) > (2 : Int))) (Bool.false = Pl.shape (n + (1 : Nat)) (Pl.Tree.mk x.fst x.snd))
 ((Exists fun (x_2 : Nat) =>
 (x_2 ≤ x.snd.length ∧ Pl.shape (n + (1 : Nat)) (Pl.Tree.mk x.fst x.snd) = (List.drop x_2 x.snd).all (Pl.shape n)) ∧
 ((↑(n + (1 : Nat)) : Int) = (↑(n + (1 : Nat)) : Int) ∧ (0 : Nat) = (0 : Nat) ∧ (0 : Int) = (↑x_2 : Int) ∧ True) ∧
 (x.fst = x.fst ∧ Is (terms x.snd) (terms x.snd) ∧ True) ∧ True) ∧
 ∀ (x_2 : Nat),
 x_2 ≤ x.snd.length ∧ Pl.shape (n + (1 : Nat)) (Pl.Tree.mk x.fst x.snd) = (List.drop x_2 x.snd).all (Pl.shape n) →
 condP (Decidable.decide ((↑x_2 : Int) < (↑x.snd.length : Int)))
 (((0 : Int) ≤ (↑x_2 : Int) ∧ (↑x_2 : Int) < (↑x.snd.length : Int)) ∧
 x_2 < x.snd.length ∧
 Exists fun (x_3 : Pl.TP) =>
 ((Pl.Tree.val (x.snd.getD x_2 Pl.dT) = x_3.fst ∧ Is (kidsT (x.snd.getD x_2 Pl.dT)) (terms x_3.snd) ∧ True) ∧
 IntKind.i64.wrap ((↑(n + (1 : Nat)) : Int) - (1 : Int)) = (↑n : Int) ∧ True) ∧
 (SmT (Pl.Tree.mk x_3.fst x_3.snd) ∧ n ≤ (10 : Nat)) ∧
 condP (!Pl.shape n (Pl.Tree.mk x_3.fst x_3.snd)) (Bool.false = Pl.shape (n + (1 : Nat)) (Pl.Tree.mk x.fst x.snd))
 (Exists fun (x' : Nat) =>
 (x' ≤ x.snd.length ∧ Pl.shape (n + (1 : Nat)) (Pl.Tree.mk x.fst x.snd) = (List.drop x' x.snd).all (Pl.shape n)) ∧
 x.snd.length - x' < x.snd.length - x_2 ∧
 ((↑(n + (1 : Nat)) : Int) = (↑(n + (1 : Nat)) : Int) ∧ (0 : Nat) = (0 : Nat) ∧ IntKind.i64.wrap ((↑x_2 : Int) + (1 : Int)) = (↑x' : Int) ∧ True) ∧
 (x.fst = x.fst ∧ Is (terms x.snd) (terms x.snd) ∧ True) ∧ True))
 (Bool.true = Pl.shape (n + (1 : Nat)) (Pl.Tree.mk x.fst x.snd))))) = Goal Tryz.prog [K_sNameOk, (K_l4Shape n)] (A_l4Shape n x.1 x.2) (K_l4Shape (n + 1)).1 (K_l4Shape (n + 1)).2 (x) := by kernel_rfl

theorem vc_l4Many0 (x : Pl.TP) : ((Exists fun (x_1 : Unit) =>
 True ∧ ((↑(0 : Nat) : Int) = (0 : Int) ∧ (0 : Nat) = (0 : Nat) ∧ (1 : Int) = (1 : Int) ∧ (0 : Int) = (0 : Int) ∧ True) ∧ (x.fst = x.fst ∧ Is (terms x.snd) (terms x.snd) ∧ True) ∧ True) ∧
 ∀ (x_1 : Unit),
 True →
 condP (Decidable.decide ((0 : Int) < (↑x.snd.length : Int))) ((1 : Int) = (↑(Pl.manyD (0 : Nat) (Pl.Tree.mk x.fst x.snd)) : Int))
 ((1 : Int) = (↑(Pl.manyD (0 : Nat) (Pl.Tree.mk x.fst x.snd)) : Int))) = Goal Tryz.prog [] (A_l4Many0 x.1 x.2) (K_l4Many 0).1 (K_l4Many 0).2 (x) := by kernel_rfl

theorem vc_l4Many (n : Nat) (x : Pl.TP) : ((Exists fun (x_1 : Nat) =>
 x_1 ≤ x.snd.length ∧
 ((↑(n + (1 : Nat)) : Int) = (↑(n + (1 : Nat)) : Int) ∧ (0 : Nat) = (0 : Nat) ∧ (1 : Int) = (↑((1 : Nat) + Pl.sumN (Pl.manyD n) (List.take x_1 x.snd)) : Int) ∧ (0 : Int) = (↑x_1 : Int) ∧ True) ∧
 (x.fst = x.fst ∧ Is (terms x.snd) (terms x.snd) ∧ True) ∧ True) ∧
 ∀ (x_1 : Nat),
 x_1 ≤ x.snd.length →
 condP (Decidable.decide ((↑x_1 : Int) < (↑x.snd.length : Int)))
 (condP (Decidable.decide ((↑(n + (1 : Nat)) : Int) > (0 : Int)))
 (((0 : Int) ≤ (↑x_1 : Int) ∧ (↑x_1 : Int) < (↑x.snd.length : Int)) ∧
 x_1 < x.snd.length ∧
 Exists fun (x_2 : Pl.TP) =>
 ((Pl.Tree.val (x.snd.getD x_1 Pl.dT) = x_2.fst ∧ Is (kidsT (x.snd.getD x_1 Pl.dT)) (terms x_2.snd) ∧ True) ∧
 IntKind.i64.wrap ((↑(n + (1 : Nat)) : Int) - (1 : Int)) = (↑n : Int) ∧ True) ∧
 (SmT (Pl.Tree.mk x_2.fst x_2.snd) ∧ n ≤ (10 : Nat)) ∧
 Exists fun (x' : Nat) =>
 x' ≤ x.snd.length ∧
 x.snd.length - x' < x.snd.length - x_1 ∧
 ((↑(n + (1 : Nat)) : Int) = (↑(n + (1 : Nat)) : Int) ∧
 (0 : Nat) = (0 : Nat) ∧
 IntKind.i64.wrap ((↑((1 : Nat) + Pl.sumN (Pl.manyD n) (List.take x_1 x.snd)) : Int) + (↑(Pl.manyD n (Pl.Tree.mk x_2.fst x_2.snd)) : Int)) =
 (↑((1 : Nat) + Pl.sumN (Pl.manyD n) (List.take x' x.snd)) : Int) ∧
 IntKind.i64.wrap ((↑x_1 : Int) + (1 : Int)) = (↑x' : Int) ∧ True) ∧
 (x.fst = x.fst ∧ Is (terms x.snd) (terms x.snd) ∧ True) ∧ True)
 ((↑((1 : Nat) + Pl.sumN (Pl.manyD n) (List.take x_1 x.snd)) : Int) = (↑(Pl.manyD (n + (1 : Nat)) (Pl.Tree.mk x.fst x.snd)) : Int)))
 ((↑((1 : Nat) + Pl.sumN (Pl.manyD n) (List.take x_1 x.snd)) : Int) = (↑(Pl.manyD (n + (1 : Nat)) (Pl.Tree.mk x.fst x.snd)) : Int))) = Goal Tryz.prog [(K_l4Many n)] (A_l4Many n x.1 x.2) (K_l4Many (n + 1)).1 (K_l4Many (n + 1)).2 (x) := by kernel_rfl

theorem vc_l4Right (a : ByteArray) (b : List Pl.Tm) : (Exists fun (x : Pl.TP) =>
 ((a = x.fst ∧ Is (terms b) (terms x.snd) ∧ True) ∧ (4 : Int) = (↑(4 : Nat) : Int) ∧ True) ∧
 (SmT (Pl.Tree.mk x.fst x.snd) ∧ (4 : Nat) ≤ (10 : Nat)) ∧
 condP (Pl.shape (4 : Nat) (Pl.Tree.mk x.fst x.snd))
 (Exists fun (x : Pl.TP) =>
 ((a = x.fst ∧ Is (terms b) (terms x.snd) ∧ True) ∧ (4 : Int) = (↑(4 : Nat) : Int) ∧ True) ∧
 (SmT (Pl.Tree.mk x.fst x.snd) ∧ (4 : Nat) ≤ (10 : Nat)) ∧ Decidable.decide ((↑(Pl.manyD (4 : Nat) (Pl.Tree.mk x.fst x.snd)) : Int) ≤ (12 : Int)) = Pl.right (Pl.Tree.mk a b))
 (Bool.false = Pl.right (Pl.Tree.mk a b))) = Goal Tryz.prog [(K_l4Shape 4), (K_l4Many 4)] ([]) K_l4Right.1 K_l4Right.2 ((a, b)) := by kernel_rfl

theorem vc_l4Find (s : Pl.Sig) (nm : ByteArray) : ((Exists fun (x : Nat) =>
 (x ≤ List.length s ∧ Pl.find s nm = Pl.find (List.drop x s) nm) ∧
 (nm = nm ∧ (0 : Nat) = (0 : Nat) ∧ (0 : Nat) = (0 : Nat) ∧ (0 : Int) = (↑x : Int) ∧ True) ∧
 (Is (syms s) (syms s) ∧ True) ∧
 ({ data := #[] } = ByteArray.empty ∧ Is (AV.lit (0 : Nat) (1 : Nat) fun (x x_1 : Nat) => AV.any) nilA ∧ (0 : Int) = (0 : Int) ∧ True) ∧ True) ∧
 ∀ (x : Nat),
 x ≤ List.length s ∧ Pl.find s nm = Pl.find (List.drop x s) nm →
 condP (Decidable.decide ((↑x : Int) < (↑(List.length s) : Int)))
 (((0 : Int) ≤ (↑x : Int) ∧ (↑x : Int) < (↑(List.length s) : Int)) ∧
 x < List.length s ∧
 condP ((List.getD s x Pl.dY).fst.toList == nm.toList)
 (((0 : Int) ≤ (↑x : Int) ∧ (↑x : Int) < (↑(List.length s) : Int)) ∧
 x < List.length s ∧
 ((List.getD s x Pl.dY).fst = (Pl.symOf s nm).fst ∧
 Is (ints (List.getD s x Pl.dY).snd.fst) (ints (Pl.symOf s nm).snd.fst) ∧ (List.getD s x Pl.dY).snd.snd = (Pl.symOf s nm).snd.snd ∧ True) ∧
 Bool.true = (Pl.find s nm).isSome ∧ True)
 (Exists fun (x' : Nat) =>
 (x' ≤ List.length s ∧ Pl.find s nm = Pl.find (List.drop x' s) nm) ∧
 List.length s - x' < List.length s - x ∧
 (nm = nm ∧ (0 : Nat) = (0 : Nat) ∧ (0 : Nat) = (0 : Nat) ∧ IntKind.i64.wrap ((↑x : Int) + (1 : Int)) = (↑x' : Int) ∧ True) ∧
 (Is (syms s) (syms s) ∧ True) ∧
 (ByteArray.empty = ByteArray.empty ∧ Is (AV.lit (0 : Nat) (1 : Nat) fun (x x_1 : Nat) => AV.any) nilA ∧ (0 : Int) = (0 : Int) ∧ True) ∧ True))
 (({ data := #[] } = (Pl.symOf s nm).fst ∧ Is (AV.lit (0 : Nat) (1 : Nat) fun (x x_1 : Nat) => AV.any) (ints (Pl.symOf s nm).snd.fst) ∧ (0 : Int) = (Pl.symOf s nm).snd.snd ∧ True) ∧
 Bool.false = (Pl.find s nm).isSome ∧ True)) = Goal Tryz.prog [] (A_l4Find s nm) K_l4Find.1 K_l4Find.2 ((s, nm)) := by kernel_rfl

theorem vc_symbol (s : Pl.Sig) (nm : ByteArray) : ((Exists fun (x : Nat) =>
 (x ≤ List.length s ∧ Pl.find s nm = Pl.find (List.drop x s) nm) ∧
 (nm = nm ∧ (0 : Nat) = (0 : Nat) ∧ (0 : Nat) = (0 : Nat) ∧ Is (syms s) (syms s) ∧ (↑(List.length s) : Int) = (↑(List.length s) : Int) ∧ (0 : Int) = (↑x : Int) ∧ True) ∧
 (Is (syms s) (syms s) ∧ True) ∧
 ({ data := #[] } = ByteArray.empty ∧ Is (AV.lit (0 : Nat) (1 : Nat) fun (x x_1 : Nat) => AV.any) nilA ∧ (0 : Int) = (0 : Int) ∧ True) ∧ True) ∧
 ∀ (x : Nat),
 x ≤ List.length s ∧ Pl.find s nm = Pl.find (List.drop x s) nm →
 condP (Decidable.decide ((↑x : Int) < (↑(List.length s) : Int)))
 (((0 : Int) ≤ (↑x : Int) ∧ (↑x : Int) < (↑(List.length s) : Int)) ∧
 x < List.length s ∧
 condP ((List.getD s x Pl.dY).fst.toList == nm.toList)
 (((List.getD s x Pl.dY).fst = (Pl.symOf s nm).fst ∧
 Is (ints (List.getD s x Pl.dY).snd.fst) (ints (Pl.symOf s nm).snd.fst) ∧ (List.getD s x Pl.dY).snd.snd = (Pl.symOf s nm).snd.snd ∧ True) ∧
 Bool.true = (Pl.find s nm).isSome ∧ True)
 (Exists fun (x' : Nat) =>
 (x' ≤ List.length s ∧ Pl.find s nm = Pl.find (List.drop x' s) nm) ∧
 List.length s - x' < List.length s - x ∧
 (nm = nm ∧
 (0 : Nat) = (0 : Nat) ∧
 (0 : Nat) = (0 : Nat) ∧
 Is (syms s) (syms s) ∧ (↑(List.length s) : Int) = (↑(List.length s) : Int) ∧ IntKind.i64.wrap ((↑x : Int) + (1 : Int)) = (↑x' : Int) ∧ True) ∧
 (Is (syms s) (syms s) ∧ True) ∧
 (ByteArray.empty = ByteArray.empty ∧ Is (AV.lit (0 : Nat) (1 : Nat) fun (x x_1 : Nat) => AV.any) nilA ∧ (0 : Int) = (0 : Int) ∧ True) ∧ True))
 (({ data := #[] } = (Pl.symOf s nm).fst ∧ Is (AV.lit (0 : Nat) (1 : Nat) fun (x x_1 : Nat) => AV.any) (ints (Pl.symOf s nm).snd.fst) ∧ (0 : Int) = (Pl.symOf s nm).snd.snd ∧ True) ∧
 Bool.false = (Pl.find s nm).isSome ∧ True)) = Goal Tryz.prog [] (A_symbol s nm) K_symbol.1 K_symbol.2 ((s, nm)) := by kernel_rfl

theorem vc_l4Of (n : Nat) (x : Pl.Sig × Pl.TP) : (Exists fun (x_1 : Pl.Sig × ByteArray) =>
 ((Is (syms x.fst) (syms x_1.fst) ∧ True) ∧ x.snd.fst = x_1.snd ∧ True) ∧
 SmG x_1.fst ∧
 condP (!(Pl.find x_1.fst x_1.snd).isSome) ((-1 : Int) = (Pl.sortT x.fst (Pl.Tree.mk x.snd.fst x.snd.snd)).getD (-1 : Int))
 (condP ((↑(Pl.symOf x_1.fst x_1.snd).snd.fst.length : Int) != (↑x.snd.snd.length : Int)) ((-1 : Int) = (Pl.sortT x.fst (Pl.Tree.mk x.snd.fst x.snd.snd)).getD (-1 : Int))
 ((Exists fun (x_2 : Nat) =>
 (x_2 ≤ x.snd.snd.length ∧
 (Pl.symOf x.fst x.snd.fst).snd.fst.length = x.snd.snd.length ∧
 (Pl.find x.fst x.snd.fst).isSome = Bool.true ∧
 Pl.sortL x.fst x.snd.snd (Pl.symOf x.fst x.snd.fst).snd.fst = Pl.sortL x.fst (List.drop x_2 x.snd.snd) (List.drop x_2 (Pl.symOf x.fst x.snd.fst).snd.fst)) ∧
 ((0 : Nat) = (0 : Nat) ∧ (0 : Nat) = (0 : Nat) ∧ (0 : Nat) = (0 : Nat) ∧ (0 : Int) = (↑x_2 : Int) ∧ True) ∧
 (Is (syms x.fst) (syms x.fst) ∧ True) ∧
 (x.snd.fst = x.snd.fst ∧ Is (terms x.snd.snd) (terms x.snd.snd) ∧ True) ∧
 ((Pl.symOf x_1.fst x_1.snd).fst = (Pl.symOf x.fst x.snd.fst).fst ∧
 Is (ints (Pl.symOf x_1.fst x_1.snd).snd.fst) (ints (Pl.symOf x.fst x.snd.fst).snd.fst) ∧
 (Pl.symOf x_1.fst x_1.snd).snd.snd = (Pl.symOf x.fst x.snd.fst).snd.snd ∧ True) ∧
 True) ∧
 ∀ (x_2 : Nat),
 x_2 ≤ x.snd.snd.length ∧
 (Pl.symOf x.fst x.snd.fst).snd.fst.length = x.snd.snd.length ∧
 (Pl.find x.fst x.snd.fst).isSome = Bool.true ∧
 Pl.sortL x.fst x.snd.snd (Pl.symOf x.fst x.snd.fst).snd.fst = Pl.sortL x.fst (List.drop x_2 x.snd.snd) (List.drop x_2 (Pl.symOf x.fst x.snd.fst).snd.fst) →
 condP (Decidable.decide ((↑x_2 : Int) < (↑x.snd.snd.length : Int)))
 (((0 : Int) ≤ (↑x_2 : Int) ∧ (↑x_2 : Int) < (↑x.snd.snd.length : Int)) ∧
 x_2 < x.snd.snd.length ∧
 Exists fun (x_3 : Pl.Sig × Pl.TP) =>
 ((Is (syms x.fst) (syms x_3.fst) ∧ True) ∧
 (Pl.Tree.val (x.snd.snd.getD x_2 Pl.dT) = x_3.snd.fst ∧ Is (kidsT (x.snd.snd.getD x_2 Pl.dT)) (terms x_3.snd.snd) ∧ True) ∧ True) ∧
 ((Pl.sigOk x_3.fst = Bool.true ∧ SmG x_3.fst ∧ SmT (Pl.Tree.mk x_3.snd.fst x_3.snd.snd)) ∧ Pl.manyL x_3.snd.snd < n) ∧
 ((0 : Int) ≤ (↑x_2 : Int) ∧ (↑x_2 : Int) < (↑(Pl.symOf x.fst x.snd.fst).snd.fst.length : Int)) ∧
 x_2 < (Pl.symOf x.fst x.snd.fst).snd.fst.length ∧
 condP ((Pl.sortT x_3.fst (Pl.Tree.mk x_3.snd.fst x_3.snd.snd)).getD (-1 : Int) != (Pl.symOf x.fst x.snd.fst).snd.fst.getD x_2 (0 : Int))
 ((-1 : Int) = (Pl.sortT x.fst (Pl.Tree.mk x.snd.fst x.snd.snd)).getD (-1 : Int))
 (Exists fun (x' : Nat) =>
 (x' ≤ x.snd.snd.length ∧
 (Pl.symOf x.fst x.snd.fst).snd.fst.length = x.snd.snd.length ∧
 (Pl.find x.fst x.snd.fst).isSome = Bool.true ∧
 Pl.sortL x.fst x.snd.snd (Pl.symOf x.fst x.snd.fst).snd.fst = Pl.sortL x.fst (List.drop x' x.snd.snd) (List.drop x' (Pl.symOf x.fst x.snd.fst).snd.fst)) ∧
 x.snd.snd.length - x' < x.snd.snd.length - x_2 ∧
 ((0 : Nat) = (0 : Nat) ∧ (0 : Nat) = (0 : Nat) ∧ (0 : Nat) = (0 : Nat) ∧ IntKind.i64.wrap ((↑x_2 : Int) + (1 : Int)) = (↑x' : Int) ∧ True) ∧
 (Is (syms x.fst) (syms x.fst) ∧ True) ∧
 (x.snd.fst = x.snd.fst ∧ Is (terms x.snd.snd) (terms x.snd.snd) ∧ True) ∧
 ((Pl.symOf x.fst x.snd.fst).fst = (Pl.symOf x.fst x.snd.fst).fst ∧
 Is (ints (Pl.symOf x.fst x.snd.fst).snd.fst) (ints (Pl.symOf x.fst x.snd.fst).snd.fst) ∧
 (Pl.symOf x.fst x.snd.fst).snd.snd = (Pl.symOf x.fst x.snd.fst).snd.snd ∧ True) ∧
 True))
 ((Pl.symOf x.fst x.snd.fst).snd.snd = (Pl.sortT x.fst (Pl.Tree.mk x.snd.fst x.snd.snd)).getD (-1 : Int))))) = Goal Tryz.prog [K_l4Find, (K_l4Of n)] (A_l4Of x.1 x.2.1 x.2.2) (K_l4Of (n + 1)).1 (K_l4Of (n + 1)).2 (x) := by kernel_rfl

theorem vc_sortOf (n : Nat) (x : Pl.Sig × Pl.TP) : (Exists fun (x_1 : Pl.Sig × ByteArray) =>
 ((Is (syms x.fst) (syms x_1.fst) ∧ True) ∧ x.snd.fst = x_1.snd ∧ True) ∧
 SmG x_1.fst ∧
 condP (!(Pl.find x_1.fst x_1.snd).isSome)
 ((0 : Int) = (Pl.sortT x.fst (Pl.Tree.mk x.snd.fst x.snd.snd)).getD (0 : Int) ∧ Bool.false = (Pl.sortT x.fst (Pl.Tree.mk x.snd.fst x.snd.snd)).isSome ∧ True)
 (condP ((↑(Pl.symOf x_1.fst x_1.snd).snd.fst.length : Int) != (↑x.snd.snd.length : Int))
 ((0 : Int) = (Pl.sortT x.fst (Pl.Tree.mk x.snd.fst x.snd.snd)).getD (0 : Int) ∧ Bool.false = (Pl.sortT x.fst (Pl.Tree.mk x.snd.fst x.snd.snd)).isSome ∧ True)
 ((Exists fun (x_2 : Nat) =>
 (x_2 ≤ x.snd.snd.length ∧
 (Pl.symOf x.fst x.snd.fst).snd.fst.length = x.snd.snd.length ∧
 (Pl.find x.fst x.snd.fst).isSome = Bool.true ∧
 Pl.sortL x.fst x.snd.snd (Pl.symOf x.fst x.snd.fst).snd.fst = Pl.sortL x.fst (List.drop x_2 x.snd.snd) (List.drop x_2 (Pl.symOf x.fst x.snd.fst).snd.fst)) ∧
 ((0 : Nat) = (0 : Nat) ∧
 (0 : Nat) = (0 : Nat) ∧
 (0 : Nat) = (0 : Nat) ∧ Is (terms x.snd.snd) (terms x.snd.snd) ∧ (↑x.snd.snd.length : Int) = (↑x.snd.snd.length : Int) ∧ (0 : Int) = (↑x_2 : Int) ∧ True) ∧
 (Is (syms x.fst) (syms x.fst) ∧ True) ∧
 (x.snd.fst = x.snd.fst ∧ Is (terms x.snd.snd) (terms x.snd.snd) ∧ True) ∧
 ((Pl.symOf x_1.fst x_1.snd).fst = (Pl.symOf x.fst x.snd.fst).fst ∧
 Is (ints (Pl.symOf x_1.fst x_1.snd).snd.fst) (ints (Pl.symOf x.fst x.snd.fst).snd.fst) ∧
 (Pl.symOf x_1.fst x_1.snd).snd.snd = (Pl.symOf x.fst x.snd.fst).snd.snd ∧ True) ∧
 True) ∧
 ∀ (x_2 : Nat),
 x_2 ≤ x.snd.snd.length ∧
 (Pl.symOf x.fst x.snd.fst).snd.fst.length = x.snd.snd.length ∧
 (Pl.find x.fst x.snd.fst).isSome = Bool.true ∧
 Pl.sortL x.fst x.snd.snd (Pl.symOf x.fst x.snd.fst).snd.fst = Pl.sortL x.fst (List.drop x_2 x.snd.snd) (List.drop x_2 (Pl.symOf x.fst x.snd.fst).snd.fst) →
 condP (Decidable.decide ((↑x_2 : Int) < (↑x.snd.snd.length : Int)))
 (((0 : Int) ≤ (↑x_2 : Int) ∧ (↑x_2 : Int) < (↑x.snd.snd.length : Int)) ∧
 x_2 < x.snd.snd.length ∧
 Exists fun (x_3 : Pl.Sig × Pl.TP) =>
 ((Is (syms x.fst) (syms x_3.fst) ∧ True) ∧
 (Pl.Tree.val (x.snd.snd.getD x_2 Pl.dT) = x_3.snd.fst ∧ Is (kidsT (x.snd.snd.getD x_2 Pl.dT)) (terms x_3.snd.snd) ∧ True) ∧ True) ∧
 ((Pl.sigOk x_3.fst = Bool.true ∧ SmG x_3.fst ∧ SmT (Pl.Tree.mk x_3.snd.fst x_3.snd.snd)) ∧ Pl.manyL x_3.snd.snd < n) ∧
 condP (!(Pl.sortT x_3.fst (Pl.Tree.mk x_3.snd.fst x_3.snd.snd)).isSome)
 ((0 : Int) = (Pl.sortT x.fst (Pl.Tree.mk x.snd.fst x.snd.snd)).getD (0 : Int) ∧ Bool.false = (Pl.sortT x.fst (Pl.Tree.mk x.snd.fst x.snd.snd)).isSome ∧ True)
 (((0 : Int) ≤ (↑x_2 : Int) ∧ (↑x_2 : Int) < (↑(Pl.symOf x.fst x.snd.fst).snd.fst.length : Int)) ∧
 x_2 < (Pl.symOf x.fst x.snd.fst).snd.fst.length ∧
 condP ((Pl.sortT x_3.fst (Pl.Tree.mk x_3.snd.fst x_3.snd.snd)).getD (0 : Int) != (Pl.symOf x.fst x.snd.fst).snd.fst.getD x_2 (0 : Int))
 ((0 : Int) = (Pl.sortT x.fst (Pl.Tree.mk x.snd.fst x.snd.snd)).getD (0 : Int) ∧ Bool.false = (Pl.sortT x.fst (Pl.Tree.mk x.snd.fst x.snd.snd)).isSome ∧ True)
 (Exists fun (x' : Nat) =>
 (x' ≤ x.snd.snd.length ∧
 (Pl.symOf x.fst x.snd.fst).snd.fst.length = x.snd.snd.length ∧
 (Pl.find x.fst x.snd.fst).isSome = Bool.true ∧
 Pl.sortL x.fst x.snd.snd (Pl.symOf x.fst x.snd.fst).snd.fst = Pl.sortL x.fst (List.drop x' x.snd.snd) (List.drop x' (Pl.symOf x.fst x.snd.fst).snd.fst)) ∧
 x.snd.snd.length - x' < x.snd.snd.length - x_2 ∧
 ((0 : Nat) = (0 : Nat) ∧
 (0 : Nat) = (0 : Nat) ∧
 (0 : Nat) = (0 : Nat) ∧
 Is (terms x.snd.snd) (terms x.snd.snd) ∧
 (↑x.snd.snd.length : Int) = (↑x.snd.snd.length : Int) ∧ IntKind.i64.wrap ((↑x_2 : Int) + (1 : Int)) = (↑x' : Int) ∧ True) ∧
 (Is (syms x.fst) (syms x.fst) ∧ True) ∧
 (x.snd.fst = x.snd.fst ∧ Is (terms x.snd.snd) (terms x.snd.snd) ∧ True) ∧
 ((Pl.symOf x.fst x.snd.fst).fst = (Pl.symOf x.fst x.snd.fst).fst ∧
 Is (ints (Pl.symOf x.fst x.snd.fst).snd.fst) (ints (Pl.symOf x.fst x.snd.fst).snd.fst) ∧
 (Pl.symOf x.fst x.snd.fst).snd.snd = (Pl.symOf x.fst x.snd.fst).snd.snd ∧ True) ∧
 True)))
 ((Pl.symOf x.fst x.snd.fst).snd.snd = (Pl.sortT x.fst (Pl.Tree.mk x.snd.fst x.snd.snd)).getD (0 : Int) ∧
 Bool.true = (Pl.sortT x.fst (Pl.Tree.mk x.snd.fst x.snd.snd)).isSome ∧ True)))) = Goal Tryz.prog [K_symbol, (K_sortOf n)] (A_sortOf x.1 x.2.1 x.2.2) (K_sortOf (n + 1)).1 (K_sortOf (n + 1)).2 (x) := by kernel_rfl

theorem vc_iTermSort (s : Pl.Sig) (a : ByteArray) (b : List Pl.Tm) : (Exists fun (x : Pl.Sig) =>
 ((Is (syms s) (syms x) ∧ True) ∧ True) ∧
 SmG x ∧
 condP (!Pl.sigOk x) ((0 : Int) = (Pl.termSort s (Pl.Tree.mk a b)).fst ∧ Bool.false = (Pl.termSort s (Pl.Tree.mk a b)).snd ∧ True)
 (Exists fun (x : Pl.TP) =>
 ((a = x.fst ∧ Is (terms b) (terms x.snd) ∧ True) ∧ True) ∧
 SmT (Pl.Tree.mk x.fst x.snd) ∧
 condP (!Pl.right (Pl.Tree.mk x.fst x.snd)) ((0 : Int) = (Pl.termSort s (Pl.Tree.mk a b)).fst ∧ Bool.false = (Pl.termSort s (Pl.Tree.mk a b)).snd ∧ True)
 (Exists fun (x : Pl.Sig × Pl.TP) =>
 ((Is (syms s) (syms x.fst) ∧ True) ∧ (a = x.snd.fst ∧ Is (terms b) (terms x.snd.snd) ∧ True) ∧ True) ∧
 (Pl.sigOk x.fst = Bool.true ∧ SmG x.fst ∧ SmT (Pl.Tree.mk x.snd.fst x.snd.snd)) ∧
 (Pl.sortT x.fst (Pl.Tree.mk x.snd.fst x.snd.snd)).getD (0 : Int) = (Pl.termSort s (Pl.Tree.mk a b)).fst ∧
 (Pl.sortT x.fst (Pl.Tree.mk x.snd.fst x.snd.snd)).isSome = (Pl.termSort s (Pl.Tree.mk a b)).snd ∧ True))) = Goal Tryz.prog [K_iSigOk, K_isTerm, K_sOf] ([]) K_iTermSort.1 K_iTermSort.2 ((s, (a, b))) := by kernel_rfl

theorem vc_termSize0 (x : Pl.TP) : (Exists fun (x_1 : ByteArray) =>
 (x.fst = x_1 ∧ True) ∧
 x_1.size ≤ (1048576 : Nat) ∧
 condP (!Pl.nameOk x_1) ((13 : Int) = (↑(Pl.tsz (0 : Nat) (Pl.Tree.mk x.fst x.snd)) : Int))
 (condP (Decidable.decide ((↑x.snd.length : Int) > (2 : Int))) ((13 : Int) = (↑(Pl.tsz (0 : Nat) (Pl.Tree.mk x.fst x.snd)) : Int))
 ((13 : Int) = (↑(Pl.tsz (0 : Nat) (Pl.Tree.mk x.fst x.snd)) : Int)))) = Goal Tryz.prog [K_iNameOk] ([]) (K_termSize 0).1 (K_termSize 0).2 (x) := by kernel_rfl

theorem vc_termSize (n : Nat) (x : Pl.TP) : (Exists fun (x_1 : ByteArray) =>
 (x.fst = x_1 ∧ True) ∧
 x_1.size ≤ (1048576 : Nat) ∧
 condP (!Pl.nameOk x_1) ((13 : Int) = (↑(Pl.tsz (n + (1 : Nat)) (Pl.Tree.mk x.fst x.snd)) : Int))
 (condP (Decidable.decide ((↑x.snd.length : Int) > (2 : Int))) ((13 : Int) = (↑(Pl.tsz (n + (1 : Nat)) (Pl.Tree.mk x.fst x.snd)) : Int))
 (condP (Decidable.decide ((5 : Int) - (↑(n + (1 : Nat)) : Int) > (4 : Int))) ((13 : Int) = (↑(Pl.tsz (n + (1 : Nat)) (Pl.Tree.mk x.fst x.snd)) : Int))
 ((Exists fun (x_2 : Nat) =>
 (x_2 ≤ x.snd.length ∧ x.snd.length ≤ (2 : Nat)) ∧
 ((5 : Int) - (↑(n + (1 : Nat)) : Int) = (5 : Int) - (↑(n + (1 : Nat)) : Int) ∧
 (0 : Nat) = (0 : Nat) ∧
 (1 : Int) = (↑((1 : Nat) + Pl.sumN (Pl.tsz n) (List.take x_2 x.snd)) : Int) ∧
 Is (terms x.snd) (terms x.snd) ∧ (↑x.snd.length : Int) = (↑x.snd.length : Int) ∧ (0 : Int) = (↑x_2 : Int) ∧ True) ∧
 (x.fst = x.fst ∧ Is (terms x.snd) (terms x.snd) ∧ True) ∧ True) ∧
 ∀ (x_2 : Nat),
 x_2 ≤ x.snd.length ∧ x.snd.length ≤ (2 : Nat) →
 condP (Decidable.decide ((↑x_2 : Int) < (↑x.snd.length : Int)))
 (((0 : Int) ≤ (↑x_2 : Int) ∧ (↑x_2 : Int) < (↑x.snd.length : Int)) ∧
 x_2 < x.snd.length ∧
 Exists fun (x_3 : Pl.TP) =>
 ((Pl.Tree.val (x.snd.getD x_2 Pl.dT) = x_3.fst ∧ Is (kidsT (x.snd.getD x_2 Pl.dT)) (terms x_3.snd) ∧ True) ∧
 IntKind.i64.wrap ((5 : Int) - (↑(n + (1 : Nat)) : Int) + (1 : Int)) = (5 : Int) - (↑n : Int) ∧ True) ∧
 (SmT (Pl.Tree.mk x_3.fst x_3.snd) ∧ n ≤ (4 : Nat)) ∧
 Exists fun (x' : Nat) =>
 (x' ≤ x.snd.length ∧ x.snd.length ≤ (2 : Nat)) ∧
 x.snd.length - x' < x.snd.length - x_2 ∧
 ((5 : Int) - (↑(n + (1 : Nat)) : Int) = (5 : Int) - (↑(n + (1 : Nat)) : Int) ∧
 (0 : Nat) = (0 : Nat) ∧
 IntKind.i64.wrap ((↑((1 : Nat) + Pl.sumN (Pl.tsz n) (List.take x_2 x.snd)) : Int) + (↑(Pl.tsz n (Pl.Tree.mk x_3.fst x_3.snd)) : Int)) =
 (↑((1 : Nat) + Pl.sumN (Pl.tsz n) (List.take x' x.snd)) : Int) ∧
 Is (terms x.snd) (terms x.snd) ∧
 (↑x.snd.length : Int) = (↑x.snd.length : Int) ∧ IntKind.i64.wrap ((↑x_2 : Int) + (1 : Int)) = (↑x' : Int) ∧ True) ∧
 (x.fst = x.fst ∧ Is (terms x.snd) (terms x.snd) ∧ True) ∧ True)
 ((↑((1 : Nat) + Pl.sumN (Pl.tsz n) (List.take x_2 x.snd)) : Int) = (↑(Pl.tsz (n + (1 : Nat)) (Pl.Tree.mk x.fst x.snd)) : Int)))))) = Goal Tryz.prog [K_iNameOk, (K_termSize n)] (A_termSize n x.1 x.2) (K_termSize (n + 1)).1 (K_termSize (n + 1)).2 (x) := by kernel_rfl

theorem vc_isTerm (a : ByteArray) (b : List Pl.Tm) : (Exists fun (x : Pl.TP) =>
 ((a = x.fst ∧ Is (terms b) (terms x.snd) ∧ True) ∧ (1 : Int) = (5 : Int) - (↑(4 : Nat) : Int) ∧ True) ∧
 (SmT (Pl.Tree.mk x.fst x.snd) ∧ (4 : Nat) ≤ (4 : Nat)) ∧ Decidable.decide ((↑(Pl.tsz (4 : Nat) (Pl.Tree.mk x.fst x.snd)) : Int) ≤ (12 : Int)) = Pl.right (Pl.Tree.mk a b)) = Goal Tryz.prog [(K_termSize 4)] ([]) K_isTerm.1 K_isTerm.2 ((a, b)) := by kernel_rfl

end Cg
