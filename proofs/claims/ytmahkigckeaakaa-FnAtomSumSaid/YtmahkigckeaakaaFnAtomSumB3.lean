/-
  What the law leans on, part 3. No condition.
-/
import Derived.Test.YtmahkigckeaakaaProg
import Derived.Shelf.Strings.OnBuilder
import Derived.Test.YtmahkigckeaakaaFnAtomSumB1
import Derived.Test.YtmahkigckeaakaaFnAtomSumB2
/-
  What is left to show of each function's code, printed by a program: Model. No condition.
-/
set_option maxRecDepth 100000
set_option linter.unusedVariables false
namespace Cg
open Go Go.Proofs
end Cg

/-
  What is left to show of each function's code, printed by a program: Tsort. No condition.
-/
set_option maxRecDepth 100000
set_option linter.unusedVariables false
namespace Cg
open Go Go.Proofs
theorem vc_l4Shape0 (x : Pl.TP) : (Bool.false = Pl.shape (0 : Nat) (Pl.Tree.mk x.fst x.snd)) = Goal Try.prog [K_sNameOk] ([]) (K_l4Shape 0).1 (K_l4Shape 0).2 (x) := by kernel_rfl

theorem vc_l4Shape (n : Nat) (x : Pl.TP) : (Exists fun (x_1 : ByteArray) =>
 (x.fst = x_1 ∧ True) ∧
 x_1.size ≤ (1048576 : Nat) ∧
 condP (!Pl.nameOk x_1) (Bool.false = Pl.shape (n + (1 : Nat)) (Pl.Tree.mk x.fst x.snd))
 (condP (Decidable.decide ((↑x.snd.length : Int) > (2 : Int))) (Bool.false = Pl.shape (n + (1 : Nat)) (Pl.Tree.mk x.fst x.snd))
 ((Exists fun (x_2 : Nat) =>
 (x_2 ≤ x.snd.length ∧ Pl.shape (n + (1 : Nat)) (Pl.Tree.mk x.fst x.snd) = (List.drop x_2 x.snd).all (Pl.shape n)) ∧
 ((↑(n + (1 : Nat)) : Int) = (↑(n + (1 : Nat)) : Int) ∧ (0 : Nat) = (0 : Nat) ∧ (0 : Int) = (↑x_2 : Int) ∧ True) ∧
 (x.fst = x.fst ∧ Is (terms x.snd) (terms x.snd) ∧ True) ∧ True) ∧
 ∀ (x_2 : Nat),
 x_2 ≤ x.snd.length ∧ Pl.shape (n + (1 : Nat)) (Pl.Tree.mk x.fst x.snd) = (List.drop x_2 x.snd).all (Pl.shape n) →
 condP (Decidable.decide ((↑x_2 : Int) < (↑x.snd.length : Int)))
 (((0 : Int) ≤ (↑x_2 : Int) ∧ (↑x_2 : Int) < (↑x.snd.length : Int)) ∧
 x_2 < x.snd.length ∧
 Exists fun (x_3 : Pl.TP) =>
 ((Pl.Tree.val (x.snd.getD x_2 Pl.dT) = x_3.fst ∧ Is (kidsT (x.snd.getD x_2 Pl.dT)) (terms x_3.snd) ∧ True) ∧
 IntKind.i64.wrap ((↑(n + (1 : Nat)) : Int) - (1 : Int)) = (↑n : Int) ∧ True) ∧
 (SmT (Pl.Tree.mk x_3.fst x_3.snd) ∧ n ≤ (10 : Nat)) ∧
 condP (!Pl.shape n (Pl.Tree.mk x_3.fst x_3.snd)) (Bool.false = Pl.shape (n + (1 : Nat)) (Pl.Tree.mk x.fst x.snd))
 (Exists fun (x' : Nat) =>
 (x' ≤ x.snd.length ∧ Pl.shape (n + (1 : Nat)) (Pl.Tree.mk x.fst x.snd) = (List.drop x' x.snd).all (Pl.shape n)) ∧
 x.snd.length - x' < x.snd.length - x_2 ∧
 ((↑(n + (1 : Nat)) : Int) = (↑(n + (1 : Nat)) : Int) ∧ (0 : Nat) = (0 : Nat) ∧ IntKind.i64.wrap ((↑x_2 : Int) + (1 : Int)) = (↑x' : Int) ∧ True) ∧
 (x.fst = x.fst ∧ Is (terms x.snd) (terms x.snd) ∧ True) ∧ True))
 (Bool.true = Pl.shape (n + (1 : Nat)) (Pl.Tree.mk x.fst x.snd))))) = Goal Try.prog [K_sNameOk, (K_l4Shape n)] (A_l4Shape n x.1 x.2) (K_l4Shape (n + 1)).1 (K_l4Shape (n + 1)).2 (x) := by kernel_rfl

theorem vc_l4Many0 (x : Pl.TP) : ((Exists fun (x_1 : Unit) =>
 True ∧ ((↑(0 : Nat) : Int) = (0 : Int) ∧ (0 : Nat) = (0 : Nat) ∧ (1 : Int) = (1 : Int) ∧ (0 : Int) = (0 : Int) ∧ True) ∧ (x.fst = x.fst ∧ Is (terms x.snd) (terms x.snd) ∧ True) ∧ True) ∧
 ∀ (x_1 : Unit),
 True →
 condP (Decidable.decide ((0 : Int) < (↑x.snd.length : Int))) ((1 : Int) = (↑(Pl.manyD (0 : Nat) (Pl.Tree.mk x.fst x.snd)) : Int))
 ((1 : Int) = (↑(Pl.manyD (0 : Nat) (Pl.Tree.mk x.fst x.snd)) : Int))) = Goal Try.prog [] (A_l4Many0 x.1 x.2) (K_l4Many 0).1 (K_l4Many 0).2 (x) := by kernel_rfl

theorem vc_l4Many (n : Nat) (x : Pl.TP) : ((Exists fun (x_1 : Nat) =>
 x_1 ≤ x.snd.length ∧
 ((↑(n + (1 : Nat)) : Int) = (↑(n + (1 : Nat)) : Int) ∧ (0 : Nat) = (0 : Nat) ∧ (1 : Int) = (↑((1 : Nat) + Pl.sumN (Pl.manyD n) (List.take x_1 x.snd)) : Int) ∧ (0 : Int) = (↑x_1 : Int) ∧ True) ∧
 (x.fst = x.fst ∧ Is (terms x.snd) (terms x.snd) ∧ True) ∧ True) ∧
 ∀ (x_1 : Nat),
 x_1 ≤ x.snd.length →
 condP (Decidable.decide ((↑x_1 : Int) < (↑x.snd.length : Int)))
 (condP (Decidable.decide ((↑(n + (1 : Nat)) : Int) > (0 : Int)))
 (((0 : Int) ≤ (↑x_1 : Int) ∧ (↑x_1 : Int) < (↑x.snd.length : Int)) ∧
 x_1 < x.snd.length ∧
 Exists fun (x_2 : Pl.TP) =>
 ((Pl.Tree.val (x.snd.getD x_1 Pl.dT) = x_2.fst ∧ Is (kidsT (x.snd.getD x_1 Pl.dT)) (terms x_2.snd) ∧ True) ∧
 IntKind.i64.wrap ((↑(n + (1 : Nat)) : Int) - (1 : Int)) = (↑n : Int) ∧ True) ∧
 (SmT (Pl.Tree.mk x_2.fst x_2.snd) ∧ n ≤ (10 : Nat)) ∧
 Exists fun (x' : Nat) =>
 x' ≤ x.snd.length ∧
 x.snd.length - x' < x.snd.length - x_1 ∧
 ((↑(n + (1 : Nat)) : Int) = (↑(n + (1 : Nat)) : Int) ∧
 (0 : Nat) = (0 : Nat) ∧
 IntKind.i64.wrap ((↑((1 : Nat) + Pl.sumN (Pl.manyD n) (List.take x_1 x.snd)) : Int) + (↑(Pl.manyD n (Pl.Tree.mk x_2.fst x_2.snd)) : Int)) =
 (↑((1 : Nat) + Pl.sumN (Pl.manyD n) (List.take x' x.snd)) : Int) ∧
 IntKind.i64.wrap ((↑x_1 : Int) + (1 : Int)) = (↑x' : Int) ∧ True) ∧
 (x.fst = x.fst ∧ Is (terms x.snd) (terms x.snd) ∧ True) ∧ True)
 ((↑((1 : Nat) + Pl.sumN (Pl.manyD n) (List.take x_1 x.snd)) : Int) = (↑(Pl.manyD (n + (1 : Nat)) (Pl.Tree.mk x.fst x.snd)) : Int)))
 ((↑((1 : Nat) + Pl.sumN (Pl.manyD n) (List.take x_1 x.snd)) : Int) = (↑(Pl.manyD (n + (1 : Nat)) (Pl.Tree.mk x.fst x.snd)) : Int))) = Goal Try.prog [(K_l4Many n)] (A_l4Many n x.1 x.2) (K_l4Many (n + 1)).1 (K_l4Many (n + 1)).2 (x) := by kernel_rfl

theorem vc_l4Right (a : ByteArray) (b : List Pl.Tm) : (Exists fun (x : Pl.TP) =>
 ((a = x.fst ∧ Is (terms b) (terms x.snd) ∧ True) ∧ (4 : Int) = (↑(4 : Nat) : Int) ∧ True) ∧
 (SmT (Pl.Tree.mk x.fst x.snd) ∧ (4 : Nat) ≤ (10 : Nat)) ∧
 condP (Pl.shape (4 : Nat) (Pl.Tree.mk x.fst x.snd))
 (Exists fun (x : Pl.TP) =>
 ((a = x.fst ∧ Is (terms b) (terms x.snd) ∧ True) ∧ (4 : Int) = (↑(4 : Nat) : Int) ∧ True) ∧
 (SmT (Pl.Tree.mk x.fst x.snd) ∧ (4 : Nat) ≤ (10 : Nat)) ∧ Decidable.decide ((↑(Pl.manyD (4 : Nat) (Pl.Tree.mk x.fst x.snd)) : Int) ≤ (12 : Int)) = Pl.right (Pl.Tree.mk a b))
 (Bool.false = Pl.right (Pl.Tree.mk a b))) = Goal Try.prog [(K_l4Shape 4), (K_l4Many 4)] ([]) K_l4Right.1 K_l4Right.2 ((a, b)) := by kernel_rfl

theorem vc_l4Find (s : Pl.Sig) (nm : ByteArray) : ((Exists fun (x : Nat) =>
 (x ≤ List.length s ∧ Pl.find s nm = Pl.find (List.drop x s) nm) ∧
 (nm = nm ∧ (0 : Nat) = (0 : Nat) ∧ (0 : Nat) = (0 : Nat) ∧ (0 : Int) = (↑x : Int) ∧ True) ∧
 (Is (syms s) (syms s) ∧ True) ∧
 ({ data := #[] } = ByteArray.empty ∧ Is (AV.lit (0 : Nat) (1 : Nat) fun (x x_1 : Nat) => AV.any) nilA ∧ (0 : Int) = (0 : Int) ∧ True) ∧ True) ∧
 ∀ (x : Nat),
 x ≤ List.length s ∧ Pl.find s nm = Pl.find (List.drop x s) nm →
 condP (Decidable.decide ((↑x : Int) < (↑(List.length s) : Int)))
 (((0 : Int) ≤ (↑x : Int) ∧ (↑x : Int) < (↑(List.length s) : Int)) ∧
 x < List.length s ∧
 condP ((List.getD s x Pl.dY).fst.toList == nm.toList)
 (((0 : Int) ≤ (↑x : Int) ∧ (↑x : Int) < (↑(List.length s) : Int)) ∧
 x < List.length s ∧
 ((List.getD s x Pl.dY).fst = (Pl.symOf s nm).fst ∧
 Is (ints (List.getD s x Pl.dY).snd.fst) (ints (Pl.symOf s nm).snd.fst) ∧ (List.getD s x Pl.dY).snd.snd = (Pl.symOf s nm).snd.snd ∧ True) ∧
 Bool.true = (Pl.find s nm).isSome ∧ True)
 (Exists fun (x' : Nat) =>
 (x' ≤ List.length s ∧ Pl.find s nm = Pl.find (List.drop x' s) nm) ∧
 List.length s - x' < List.length s - x ∧
 (nm = nm ∧ (0 : Nat) = (0 : Nat) ∧ (0 : Nat) = (0 : Nat) ∧ IntKind.i64.wrap ((↑x : Int) + (1 : Int)) = (↑x' : Int) ∧ True) ∧
 (Is (syms s) (syms s) ∧ True) ∧
 (ByteArray.empty = ByteArray.empty ∧ Is (AV.lit (0 : Nat) (1 : Nat) fun (x x_1 : Nat) => AV.any) nilA ∧ (0 : Int) = (0 : Int) ∧ True) ∧ True))
 (({ data := #[] } = (Pl.symOf s nm).fst ∧ Is (AV.lit (0 : Nat) (1 : Nat) fun (x x_1 : Nat) => AV.any) (ints (Pl.symOf s nm).snd.fst) ∧ (0 : Int) = (Pl.symOf s nm).snd.snd ∧ True) ∧
 Bool.false = (Pl.find s nm).isSome ∧ True)) = Goal Try.prog [] (A_l4Find s nm) K_l4Find.1 K_l4Find.2 ((s, nm)) := by kernel_rfl

theorem vc_symbol (s : Pl.Sig) (nm : ByteArray) : ((Exists fun (x : Nat) =>
 (x ≤ List.length s ∧ Pl.find s nm = Pl.find (List.drop x s) nm) ∧
 (nm = nm ∧ (0 : Nat) = (0 : Nat) ∧ (0 : Nat) = (0 : Nat) ∧ Is (syms s) (syms s) ∧ (↑(List.length s) : Int) = (↑(List.length s) : Int) ∧ (0 : Int) = (↑x : Int) ∧ True) ∧
 (Is (syms s) (syms s) ∧ True) ∧
 ({ data := #[] } = ByteArray.empty ∧ Is (AV.lit (0 : Nat) (1 : Nat) fun (x x_1 : Nat) => AV.any) nilA ∧ (0 : Int) = (0 : Int) ∧ True) ∧ True) ∧
 ∀ (x : Nat),
 x ≤ List.length s ∧ Pl.find s nm = Pl.find (List.drop x s) nm →
 condP (Decidable.decide ((↑x : Int) < (↑(List.length s) : Int)))
 (((0 : Int) ≤ (↑x : Int) ∧ (↑x : Int) < (↑(List.length s) : Int)) ∧
 x < List.length s ∧
 condP ((List.getD s x Pl.dY).fst.toList == nm.toList)
 (((List.getD s x Pl.dY).fst = (Pl.symOf s nm).fst ∧
 Is (ints (List.getD s x Pl.dY).snd.fst) (ints (Pl.symOf s nm).snd.fst) ∧ (List.getD s x Pl.dY).snd.snd = (Pl.symOf s nm).snd.snd ∧ True) ∧
 Bool.true = (Pl.find s nm).isSome ∧ True)
 (Exists fun (x' : Nat) =>
 (x' ≤ List.length s ∧ Pl.find s nm = Pl.find (List.drop x' s) nm) ∧
 List.length s - x' < List.length s - x ∧
 (nm = nm ∧
 (0 : Nat) = (0 : Nat) ∧
 (0 : Nat) = (0 : Nat) ∧
 Is (syms s) (syms s) ∧ (↑(List.length s) : Int) = (↑(List.length s) : Int) ∧ IntKind.i64.wrap ((↑x : Int) + (1 : Int)) = (↑x' : Int) ∧ True) ∧
 (Is (syms s) (syms s) ∧ True) ∧
 (ByteArray.empty = ByteArray.empty ∧ Is (AV.lit (0 : Nat) (1 : Nat) fun (x x_1 : Nat) => AV.any) nilA ∧ (0 : Int) = (0 : Int) ∧ True) ∧ True))
 (({ data := #[] } = (Pl.symOf s nm).fst ∧ Is (AV.lit (0 : Nat) (1 : Nat) fun (x x_1 : Nat) => AV.any) (ints (Pl.symOf s nm).snd.fst) ∧ (0 : Int) = (Pl.symOf s nm).snd.snd ∧ True) ∧
 Bool.false = (Pl.find s nm).isSome ∧ True)) = Goal Try.prog [] (A_symbol s nm) K_symbol.1 K_symbol.2 ((s, nm)) := by kernel_rfl

theorem vc_l4Of (n : Nat) (x : Pl.Sig × Pl.TP) : (Exists fun (x_1 : Pl.Sig × ByteArray) =>
 ((Is (syms x.fst) (syms x_1.fst) ∧ True) ∧ x.snd.fst = x_1.snd ∧ True) ∧
 SmG x_1.fst ∧
 condP (!(Pl.find x_1.fst x_1.snd).isSome) ((-1 : Int) = (Pl.sortT x.fst (Pl.Tree.mk x.snd.fst x.snd.snd)).getD (-1 : Int))
 (condP ((↑(Pl.symOf x_1.fst x_1.snd).snd.fst.length : Int) != (↑x.snd.snd.length : Int)) ((-1 : Int) = (Pl.sortT x.fst (Pl.Tree.mk x.snd.fst x.snd.snd)).getD (-1 : Int))
 ((Exists fun (x_2 : Nat) =>
 (x_2 ≤ x.snd.snd.length ∧
 (Pl.symOf x.fst x.snd.fst).snd.fst.length = x.snd.snd.length ∧
 (Pl.find x.fst x.snd.fst).isSome = Bool.true ∧
 Pl.sortL x.fst x.snd.snd (Pl.symOf x.fst x.snd.fst).snd.fst = Pl.sortL x.fst (List.drop x_2 x.snd.snd) (List.drop x_2 (Pl.symOf x.fst x.snd.fst).snd.fst)) ∧
 ((0 : Nat) = (0 : Nat) ∧ (0 : Nat) = (0 : Nat) ∧ (0 : Nat) = (0 : Nat) ∧ (0 : Int) = (↑x_2 : Int) ∧ True) ∧
 (Is (syms x.fst) (syms x.fst) ∧ True) ∧
 (x.snd.fst = x.snd.fst ∧ Is (terms x.snd.snd) (terms x.snd.snd) ∧ True) ∧
 ((Pl.symOf x_1.fst x_1.snd).fst = (Pl.symOf x.fst x.snd.fst).fst ∧
 Is (ints (Pl.symOf x_1.fst x_1.snd).snd.fst) (ints (Pl.symOf x.fst x.snd.fst).snd.fst) ∧
 (Pl.symOf x_1.fst x_1.snd).snd.snd = (Pl.symOf x.fst x.snd.fst).snd.snd ∧ True) ∧
 True) ∧
 ∀ (x_2 : Nat),
 x_2 ≤ x.snd.snd.length ∧
 (Pl.symOf x.fst x.snd.fst).snd.fst.length = x.snd.snd.length ∧
 (Pl.find x.fst x.snd.fst).isSome = Bool.true ∧
 Pl.sortL x.fst x.snd.snd (Pl.symOf x.fst x.snd.fst).snd.fst = Pl.sortL x.fst (List.drop x_2 x.snd.snd) (List.drop x_2 (Pl.symOf x.fst x.snd.fst).snd.fst) →
 condP (Decidable.decide ((↑x_2 : Int) < (↑x.snd.snd.length : Int)))
 (((0 : Int) ≤ (↑x_2 : Int) ∧ (↑x_2 : Int) < (↑x.snd.snd.length : Int)) ∧
 x_2 < x.snd.snd.length ∧
 Exists fun (x_3 : Pl.Sig × Pl.TP) =>
 ((Is (syms x.fst) (syms x_3.fst) ∧ True) ∧
 (Pl.Tree.val (x.snd.snd.getD x_2 Pl.dT) = x_3.snd.fst ∧ Is (kidsT (x.snd.snd.getD x_2 Pl.dT)) (terms x_3.snd.snd) ∧ True) ∧ True) ∧
 ((Pl.sigOk x_3.fst = Bool.true ∧ SmG x_3.fst ∧ SmT (Pl.Tree.mk x_3.snd.fst x_3.snd.snd)) ∧ Pl.manyL x_3.snd.snd < n) ∧
 ((0 : Int) ≤ (↑x_2 : Int) ∧ (↑x_2 : Int) < (↑(Pl.symOf x.fst x.snd.fst).snd.fst.length : Int)) ∧
 x_2 < (Pl.symOf x.fst x.snd.fst).snd.fst.length ∧
 condP ((Pl.sortT x_3.fst (Pl.Tree.mk x_3.snd.fst x_3.snd.snd)).getD (-1 : Int) != (Pl.symOf x.fst x.snd.fst).snd.fst.getD x_2 (0 : Int))
 ((-1 : Int) = (Pl.sortT x.fst (Pl.Tree.mk x.snd.fst x.snd.snd)).getD (-1 : Int))
 (Exists fun (x' : Nat) =>
 (x' ≤ x.snd.snd.length ∧
 (Pl.symOf x.fst x.snd.fst).snd.fst.length = x.snd.snd.length ∧
 (Pl.find x.fst x.snd.fst).isSome = Bool.true ∧
 Pl.sortL x.fst x.snd.snd (Pl.symOf x.fst x.snd.fst).snd.fst = Pl.sortL x.fst (List.drop x' x.snd.snd) (List.drop x' (Pl.symOf x.fst x.snd.fst).snd.fst)) ∧
 x.snd.snd.length - x' < x.snd.snd.length - x_2 ∧
 ((0 : Nat) = (0 : Nat) ∧ (0 : Nat) = (0 : Nat) ∧ (0 : Nat) = (0 : Nat) ∧ IntKind.i64.wrap ((↑x_2 : Int) + (1 : Int)) = (↑x' : Int) ∧ True) ∧
 (Is (syms x.fst) (syms x.fst) ∧ True) ∧
 (x.snd.fst = x.snd.fst ∧ Is (terms x.snd.snd) (terms x.snd.snd) ∧ True) ∧
 ((Pl.symOf x.fst x.snd.fst).fst = (Pl.symOf x.fst x.snd.fst).fst ∧
 Is (ints (Pl.symOf x.fst x.snd.fst).snd.fst) (ints (Pl.symOf x.fst x.snd.fst).snd.fst) ∧
 (Pl.symOf x.fst x.snd.fst).snd.snd = (Pl.symOf x.fst x.snd.fst).snd.snd ∧ True) ∧
 True))
 ((Pl.symOf x.fst x.snd.fst).snd.snd = (Pl.sortT x.fst (Pl.Tree.mk x.snd.fst x.snd.snd)).getD (-1 : Int))))) = Goal Try.prog [K_l4Find, (K_l4Of n)] (A_l4Of x.1 x.2.1 x.2.2) (K_l4Of (n + 1)).1 (K_l4Of (n + 1)).2 (x) := by kernel_rfl

theorem vc_sortOf (n : Nat) (x : Pl.Sig × Pl.TP) : (Exists fun (x_1 : Pl.Sig × ByteArray) =>
 ((Is (syms x.fst) (syms x_1.fst) ∧ True) ∧ x.snd.fst = x_1.snd ∧ True) ∧
 SmG x_1.fst ∧
 condP (!(Pl.find x_1.fst x_1.snd).isSome)
 ((0 : Int) = (Pl.sortT x.fst (Pl.Tree.mk x.snd.fst x.snd.snd)).getD (0 : Int) ∧ Bool.false = (Pl.sortT x.fst (Pl.Tree.mk x.snd.fst x.snd.snd)).isSome ∧ True)
 (condP ((↑(Pl.symOf x_1.fst x_1.snd).snd.fst.length : Int) != (↑x.snd.snd.length : Int))
 ((0 : Int) = (Pl.sortT x.fst (Pl.Tree.mk x.snd.fst x.snd.snd)).getD (0 : Int) ∧ Bool.false = (Pl.sortT x.fst (Pl.Tree.mk x.snd.fst x.snd.snd)).isSome ∧ True)
 ((Exists fun (x_2 : Nat) =>
 (x_2 ≤ x.snd.snd.length ∧
 (Pl.symOf x.fst x.snd.fst).snd.fst.length = x.snd.snd.length ∧
 (Pl.find x.fst x.snd.fst).isSome = Bool.true ∧
 Pl.sortL x.fst x.snd.snd (Pl.symOf x.fst x.snd.fst).snd.fst = Pl.sortL x.fst (List.drop x_2 x.snd.snd) (List.drop x_2 (Pl.symOf x.fst x.snd.fst).snd.fst)) ∧
 ((0 : Nat) = (0 : Nat) ∧
 (0 : Nat) = (0 : Nat) ∧
 (0 : Nat) = (0 : Nat) ∧ Is (terms x.snd.snd) (terms x.snd.snd) ∧ (↑x.snd.snd.length : Int) = (↑x.snd.snd.length : Int) ∧ (0 : Int) = (↑x_2 : Int) ∧ True) ∧
 (Is (syms x.fst) (syms x.fst) ∧ True) ∧
 (x.snd.fst = x.snd.fst ∧ Is (terms x.snd.snd) (terms x.snd.snd) ∧ True) ∧
 ((Pl.symOf x_1.fst x_1.snd).fst = (Pl.symOf x.fst x.snd.fst).fst ∧
 Is (ints (Pl.symOf x_1.fst x_1.snd).snd.fst) (ints (Pl.symOf x.fst x.snd.fst).snd.fst) ∧
 (Pl.symOf x_1.fst x_1.snd).snd.snd = (Pl.symOf x.fst x.snd.fst).snd.snd ∧ True) ∧
 True) ∧
 ∀ (x_2 : Nat),
 x_2 ≤ x.snd.snd.length ∧
 (Pl.symOf x.fst x.snd.fst).snd.fst.length = x.snd.snd.length ∧
 (Pl.find x.fst x.snd.fst).isSome = Bool.true ∧
 Pl.sortL x.fst x.snd.snd (Pl.symOf x.fst x.snd.fst).snd.fst = Pl.sortL x.fst (List.drop x_2 x.snd.snd) (List.drop x_2 (Pl.symOf x.fst x.snd.fst).snd.fst) →
 condP (Decidable.decide ((↑x_2 : Int) < (↑x.snd.snd.length : Int)))
 (((0 : Int) ≤ (↑x_2 : Int) ∧ (↑x_2 : Int) < (↑x.snd.snd.length : Int)) ∧
 x_2 < x.snd.snd.length ∧
 Exists fun (x_3 : Pl.Sig × Pl.TP) =>
 ((Is (syms x.fst) (syms x_3.fst) ∧ True) ∧
 (Pl.Tree.val (x.snd.snd.getD x_2 Pl.dT) = x_3.snd.fst ∧ Is (kidsT (x.snd.snd.getD x_2 Pl.dT)) (terms x_3.snd.snd) ∧ True) ∧ True) ∧
 ((Pl.sigOk x_3.fst = Bool.true ∧ SmG x_3.fst ∧ SmT (Pl.Tree.mk x_3.snd.fst x_3.snd.snd)) ∧ Pl.manyL x_3.snd.snd < n) ∧
 condP (!(Pl.sortT x_3.fst (Pl.Tree.mk x_3.snd.fst x_3.snd.snd)).isSome)
 ((0 : Int) = (Pl.sortT x.fst (Pl.Tree.mk x.snd.fst x.snd.snd)).getD (0 : Int) ∧ Bool.false = (Pl.sortT x.fst (Pl.Tree.mk x.snd.fst x.snd.snd)).isSome ∧ True)
 (((0 : Int) ≤ (↑x_2 : Int) ∧ (↑x_2 : Int) < (↑(Pl.symOf x.fst x.snd.fst).snd.fst.length : Int)) ∧
 x_2 < (Pl.symOf x.fst x.snd.fst).snd.fst.length ∧
 condP ((Pl.sortT x_3.fst (Pl.Tree.mk x_3.snd.fst x_3.snd.snd)).getD (0 : Int) != (Pl.symOf x.fst x.snd.fst).snd.fst.getD x_2 (0 : Int))
 ((0 : Int) = (Pl.sortT x.fst (Pl.Tree.mk x.snd.fst x.snd.snd)).getD (0 : Int) ∧ Bool.false = (Pl.sortT x.fst (Pl.Tree.mk x.snd.fst x.snd.snd)).isSome ∧ True)
 (Exists fun (x' : Nat) =>
 (x' ≤ x.snd.snd.length ∧
 (Pl.symOf x.fst x.snd.fst).snd.fst.length = x.snd.snd.length ∧
 (Pl.find x.fst x.snd.fst).isSome = Bool.true ∧
 Pl.sortL x.fst x.snd.snd (Pl.symOf x.fst x.snd.fst).snd.fst = Pl.sortL x.fst (List.drop x' x.snd.snd) (List.drop x' (Pl.symOf x.fst x.snd.fst).snd.fst)) ∧
 x.snd.snd.length - x' < x.snd.snd.length - x_2 ∧
 ((0 : Nat) = (0 : Nat) ∧
 (0 : Nat) = (0 : Nat) ∧
 (0 : Nat) = (0 : Nat) ∧
 Is (terms x.snd.snd) (terms x.snd.snd) ∧
 (↑x.snd.snd.length : Int) = (↑x.snd.snd.length : Int) ∧ IntKind.i64.wrap ((↑x_2 : Int) + (1 : Int)) = (↑x' : Int) ∧ True) ∧
 (Is (syms x.fst) (syms x.fst) ∧ True) ∧
 (x.snd.fst = x.snd.fst ∧ Is (terms x.snd.snd) (terms x.snd.snd) ∧ True) ∧
 ((Pl.symOf x.fst x.snd.fst).fst = (Pl.symOf x.fst x.snd.fst).fst ∧
 Is (ints (Pl.symOf x.fst x.snd.fst).snd.fst) (ints (Pl.symOf x.fst x.snd.fst).snd.fst) ∧
 (Pl.symOf x.fst x.snd.fst).snd.snd = (Pl.symOf x.fst x.snd.fst).snd.snd ∧ True) ∧
 True)))
 ((Pl.symOf x.fst x.snd.fst).snd.snd = (Pl.sortT x.fst (Pl.Tree.mk x.snd.fst x.snd.snd)).getD (0 : Int) ∧
 Bool.true = (Pl.sortT x.fst (Pl.Tree.mk x.snd.fst x.snd.snd)).isSome ∧ True)))) = Goal Try.prog [K_symbol, (K_sortOf n)] (A_sortOf x.1 x.2.1 x.2.2) (K_sortOf (n + 1)).1 (K_sortOf (n + 1)).2 (x) := by kernel_rfl

theorem vc_iTermSort (s : Pl.Sig) (a : ByteArray) (b : List Pl.Tm) : (Exists fun (x : Pl.Sig) =>
 ((Is (syms s) (syms x) ∧ True) ∧ True) ∧
 SmG x ∧
 condP (!Pl.sigOk x) ((0 : Int) = (Pl.termSort s (Pl.Tree.mk a b)).fst ∧ Bool.false = (Pl.termSort s (Pl.Tree.mk a b)).snd ∧ True)
 (Exists fun (x : Pl.TP) =>
 ((a = x.fst ∧ Is (terms b) (terms x.snd) ∧ True) ∧ True) ∧
 SmT (Pl.Tree.mk x.fst x.snd) ∧
 condP (!Pl.right (Pl.Tree.mk x.fst x.snd)) ((0 : Int) = (Pl.termSort s (Pl.Tree.mk a b)).fst ∧ Bool.false = (Pl.termSort s (Pl.Tree.mk a b)).snd ∧ True)
 (Exists fun (x : Pl.Sig × Pl.TP) =>
 ((Is (syms s) (syms x.fst) ∧ True) ∧ (a = x.snd.fst ∧ Is (terms b) (terms x.snd.snd) ∧ True) ∧ True) ∧
 (Pl.sigOk x.fst = Bool.true ∧ SmG x.fst ∧ SmT (Pl.Tree.mk x.snd.fst x.snd.snd)) ∧
 (Pl.sortT x.fst (Pl.Tree.mk x.snd.fst x.snd.snd)).getD (0 : Int) = (Pl.termSort s (Pl.Tree.mk a b)).fst ∧
 (Pl.sortT x.fst (Pl.Tree.mk x.snd.fst x.snd.snd)).isSome = (Pl.termSort s (Pl.Tree.mk a b)).snd ∧ True))) = Goal Try.prog [K_iSigOk, K_isTerm, K_sOf] ([]) K_iTermSort.1 K_iTermSort.2 ((s, (a, b))) := by kernel_rfl

theorem vc_termSize0 (x : Pl.TP) : (Exists fun (x_1 : ByteArray) =>
 (x.fst = x_1 ∧ True) ∧
 x_1.size ≤ (1048576 : Nat) ∧
 condP (!Pl.nameOk x_1) ((13 : Int) = (↑(Pl.tsz (0 : Nat) (Pl.Tree.mk x.fst x.snd)) : Int))
 (condP (Decidable.decide ((↑x.snd.length : Int) > (2 : Int))) ((13 : Int) = (↑(Pl.tsz (0 : Nat) (Pl.Tree.mk x.fst x.snd)) : Int))
 ((13 : Int) = (↑(Pl.tsz (0 : Nat) (Pl.Tree.mk x.fst x.snd)) : Int)))) = Goal Try.prog [K_iNameOk] ([]) (K_termSize 0).1 (K_termSize 0).2 (x) := by kernel_rfl

theorem vc_termSize (n : Nat) (x : Pl.TP) : (Exists fun (x_1 : ByteArray) =>
 (x.fst = x_1 ∧ True) ∧
 x_1.size ≤ (1048576 : Nat) ∧
 condP (!Pl.nameOk x_1) ((13 : Int) = (↑(Pl.tsz (n + (1 : Nat)) (Pl.Tree.mk x.fst x.snd)) : Int))
 (condP (Decidable.decide ((↑x.snd.length : Int) > (2 : Int))) ((13 : Int) = (↑(Pl.tsz (n + (1 : Nat)) (Pl.Tree.mk x.fst x.snd)) : Int))
 (condP (Decidable.decide ((5 : Int) - (↑(n + (1 : Nat)) : Int) > (4 : Int))) ((13 : Int) = (↑(Pl.tsz (n + (1 : Nat)) (Pl.Tree.mk x.fst x.snd)) : Int))
 ((Exists fun (x_2 : Nat) =>
 (x_2 ≤ x.snd.length ∧ x.snd.length ≤ (2 : Nat)) ∧
 ((5 : Int) - (↑(n + (1 : Nat)) : Int) = (5 : Int) - (↑(n + (1 : Nat)) : Int) ∧
 (0 : Nat) = (0 : Nat) ∧
 (1 : Int) = (↑((1 : Nat) + Pl.sumN (Pl.tsz n) (List.take x_2 x.snd)) : Int) ∧
 Is (terms x.snd) (terms x.snd) ∧ (↑x.snd.length : Int) = (↑x.snd.length : Int) ∧ (0 : Int) = (↑x_2 : Int) ∧ True) ∧
 (x.fst = x.fst ∧ Is (terms x.snd) (terms x.snd) ∧ True) ∧ True) ∧
 ∀ (x_2 : Nat),
 x_2 ≤ x.snd.length ∧ x.snd.length ≤ (2 : Nat) →
 condP (Decidable.decide ((↑x_2 : Int) < (↑x.snd.length : Int)))
 (((0 : Int) ≤ (↑x_2 : Int) ∧ (↑x_2 : Int) < (↑x.snd.length : Int)) ∧
 x_2 < x.snd.length ∧
 Exists fun (x_3 : Pl.TP) =>
 ((Pl.Tree.val (x.snd.getD x_2 Pl.dT) = x_3.fst ∧ Is (kidsT (x.snd.getD x_2 Pl.dT)) (terms x_3.snd) ∧ True) ∧
 IntKind.i64.wrap ((5 : Int) - (↑(n + (1 : Nat)) : Int) + (1 : Int)) = (5 : Int) - (↑n : Int) ∧ True) ∧
 (SmT (Pl.Tree.mk x_3.fst x_3.snd) ∧ n ≤ (4 : Nat)) ∧
 Exists fun (x' : Nat) =>
 (x' ≤ x.snd.length ∧ x.snd.length ≤ (2 : Nat)) ∧
 x.snd.length - x' < x.snd.length - x_2 ∧
 ((5 : Int) - (↑(n + (1 : Nat)) : Int) = (5 : Int) - (↑(n + (1 : Nat)) : Int) ∧
 (0 : Nat) = (0 : Nat) ∧
 IntKind.i64.wrap ((↑((1 : Nat) + Pl.sumN (Pl.tsz n) (List.take x_2 x.snd)) : Int) + (↑(Pl.tsz n (Pl.Tree.mk x_3.fst x_3.snd)) : Int)) =
 (↑((1 : Nat) + Pl.sumN (Pl.tsz n) (List.take x' x.snd)) : Int) ∧
 Is (terms x.snd) (terms x.snd) ∧
 (↑x.snd.length : Int) = (↑x.snd.length : Int) ∧ IntKind.i64.wrap ((↑x_2 : Int) + (1 : Int)) = (↑x' : Int) ∧ True) ∧
 (x.fst = x.fst ∧ Is (terms x.snd) (terms x.snd) ∧ True) ∧ True)
 ((↑((1 : Nat) + Pl.sumN (Pl.tsz n) (List.take x_2 x.snd)) : Int) = (↑(Pl.tsz (n + (1 : Nat)) (Pl.Tree.mk x.fst x.snd)) : Int)))))) = Goal Try.prog [K_iNameOk, (K_termSize n)] (A_termSize n x.1 x.2) (K_termSize (n + 1)).1 (K_termSize (n + 1)).2 (x) := by kernel_rfl

theorem vc_isTerm (a : ByteArray) (b : List Pl.Tm) : (Exists fun (x : Pl.TP) =>
 ((a = x.fst ∧ Is (terms b) (terms x.snd) ∧ True) ∧ (1 : Int) = (5 : Int) - (↑(4 : Nat) : Int) ∧ True) ∧
 (SmT (Pl.Tree.mk x.fst x.snd) ∧ (4 : Nat) ≤ (4 : Nat)) ∧ Decidable.decide ((↑(Pl.tsz (4 : Nat) (Pl.Tree.mk x.fst x.snd)) : Int) ≤ (12 : Int)) = Pl.right (Pl.Tree.mk a b)) = Goal Try.prog [(K_termSize 4)] ([]) K_isTerm.1 K_isTerm.2 ((a, b)) := by kernel_rfl

end Cg

/-
  What is left to show of each function's code, printed by a program: Sort. No condition.
-/
set_option maxRecDepth 100000
set_option linter.unusedVariables false
namespace Cg
open Go Go.Proofs
end Cg

/-
  What is left to show of each function's code, printed by a program: Sig. No condition.
-/
set_option maxRecDepth 100000
set_option linter.unusedVariables false
namespace Cg
open Go Go.Proofs
theorem vc_sNameOk (s : ByteArray) : ((Exists fun (x : Nat) => (x ≤ s.size ∧ (Pl.bs s).all Pl.lower = (List.drop x (Pl.bs s)).all Pl.lower) ∧ (s = s ∧ (0 : Int) = (↑x : Int) ∧ True) ∧ True) ∧
 ∀ (x : Nat),
 x ≤ s.size ∧ (Pl.bs s).all Pl.lower = (List.drop x (Pl.bs s)).all Pl.lower →
 condP (Decidable.decide ((↑x : Int) < (↑s.size : Int)))
 (((0 : Int) ≤ (↑x : Int) ∧ (↑x : Int) < (↑s.size : Int)) ∧
 condP (Decidable.decide ((↑(s.data.getD x (0 : UInt8)).toNat : Int) < (97 : Int))) (Bool.false = Pl.nameOk s)
 (((0 : Int) ≤ (↑x : Int) ∧ (↑x : Int) < (↑s.size : Int)) ∧
 condP (Decidable.decide ((↑(s.data.getD x (0 : UInt8)).toNat : Int) > (122 : Int))) (Bool.false = Pl.nameOk s)
 (Exists fun (x' : Nat) =>
 (x' ≤ s.size ∧ (Pl.bs s).all Pl.lower = (List.drop x' (Pl.bs s)).all Pl.lower) ∧
 s.size - x' < s.size - x ∧ (s = s ∧ IntKind.i64.wrap ((↑x : Int) + (1 : Int)) = (↑x' : Int) ∧ True) ∧ True)))
 (condP (Decidable.decide ((↑s.size : Int) ≥ (1 : Int))) (Decidable.decide ((↑s.size : Int) ≤ (2 : Int)) = Pl.nameOk s) (Bool.false = Pl.nameOk s))) = Goal Try.prog [] (A_sNameOk s) K_sNameOk.1 K_sNameOk.2 (s) := by kernel_rfl

theorem vc_iNameOk (s : ByteArray) : (Exists fun (x : Int × Int × Int) =>
 ((↑s.size : Int) = x.fst ∧ (1 : Int) = x.snd.fst ∧ (2 : Int) = x.snd.snd ∧ True) ∧
 True ∧
 condP (!Pl.withinI x.fst x.snd.fst x.snd.snd) (Bool.false = Pl.nameOk s)
 ((Exists fun (x : Nat) => (x ≤ s.size ∧ (Pl.bs s).all Pl.lower = (List.drop x (Pl.bs s)).all Pl.lower) ∧ (s = s ∧ (↑s.size : Int) = (↑s.size : Int) ∧ (0 : Int) = (↑x : Int) ∧ True) ∧ True) ∧
 ∀ (x : Nat),
 x ≤ s.size ∧ (Pl.bs s).all Pl.lower = (List.drop x (Pl.bs s)).all Pl.lower →
 condP (Decidable.decide ((↑x : Int) < (↑s.size : Int)))
 (((0 : Int) ≤ (↑x : Int) ∧ (↑x : Int) < (↑s.size : Int)) ∧
 condP (Decidable.decide ((↑(s.data.getD x (0 : UInt8)).toNat : Int) < (97 : Int))) (Bool.false = Pl.nameOk s)
 (((0 : Int) ≤ (↑x : Int) ∧ (↑x : Int) < (↑s.size : Int)) ∧
 condP (Decidable.decide ((↑(s.data.getD x (0 : UInt8)).toNat : Int) > (122 : Int))) (Bool.false = Pl.nameOk s)
 (Exists fun (x' : Nat) =>
 (x' ≤ s.size ∧ (Pl.bs s).all Pl.lower = (List.drop x' (Pl.bs s)).all Pl.lower) ∧
 s.size - x' < s.size - x ∧ (s = s ∧ (↑s.size : Int) = (↑s.size : Int) ∧ IntKind.i64.wrap ((↑x : Int) + (1 : Int)) = (↑x' : Int) ∧ True) ∧ True)))
 (Bool.true = Pl.nameOk s))) = Goal Try.prog [K_within] (A_iNameOk s) K_iNameOk.1 K_iNameOk.2 (s) := by kernel_rfl

theorem vc_l4Sort (x : Int) : (condP (x == (0 : Int)) (Bool.true = Pl.isSort x) ((x == (1 : Int)) = Pl.isSort x)) = Goal Try.prog [] ([]) K_l4Sort.1 K_l4Sort.2 (x) := by kernel_rfl

theorem vc_isSort (x : Int) : (condP (x == (0 : Int)) (Bool.true = Pl.isSort x) ((x == (1 : Int)) = Pl.isSort x)) = Goal Try.prog [] ([]) K_isSort.1 K_isSort.2 (x) := by kernel_rfl

theorem vc_symok1 (x : Int) : (Exists fun (x_1 : Int) => (x = x_1 ∧ True) ∧ True ∧ (!Pl.isSort x_1) = !Pl.isSort x) = Goal Try.prog [K_isSort] ([]) K_symok1.1 K_symok1.2 (x) := by kernel_rfl

theorem vc_IndexSort (l : List Int) : ((Exists fun (x : Nat) =>
 (x ≤ l.length ∧
 Pl.idx (fun (y : Int) => !Pl.isSort y) l =
 if Pl.idx (fun (y : Int) => !Pl.isSort y) (List.drop x l) < (0 : Int) then (-1 : Int) else Pl.idx (fun (y : Int) => !Pl.isSort y) (List.drop x l) + (↑x : Int)) ∧
 (Is (ints l) (ints l) ∧ True ∧ (↑l.length : Int) = (↑l.length : Int) ∧ (0 : Int) = (↑x : Int) ∧ True) ∧ True) ∧
 ∀ (x : Nat),
 (x ≤ l.length ∧
 Pl.idx (fun (y : Int) => !Pl.isSort y) l =
 if Pl.idx (fun (y : Int) => !Pl.isSort y) (List.drop x l) < (0 : Int) then (-1 : Int) else Pl.idx (fun (y : Int) => !Pl.isSort y) (List.drop x l) + (↑x : Int)) →
 condP (Decidable.decide ((↑x : Int) < (↑l.length : Int)))
 (((0 : Int) ≤ (↑x : Int) ∧ (↑x : Int) < (↑l.length : Int)) ∧
 x < l.length ∧
 Exists fun (x_1 : Int) =>
 (l.getD x (0 : Int) = x_1 ∧ True) ∧
 True ∧
 condP (!Pl.isSort x_1) ((↑x : Int) = Pl.idx (fun (y : Int) => !Pl.isSort y) l)
 (Exists fun (x' : Nat) =>
 (x' ≤ l.length ∧
 Pl.idx (fun (y : Int) => !Pl.isSort y) l =
 if Pl.idx (fun (y : Int) => !Pl.isSort y) (List.drop x' l) < (0 : Int) then (-1 : Int) else Pl.idx (fun (y : Int) => !Pl.isSort y) (List.drop x' l) + (↑x' : Int)) ∧
 l.length - x' < l.length - x ∧
 (Is (ints l) (ints l) ∧ True ∧ (↑l.length : Int) = (↑l.length : Int) ∧ IntKind.i64.wrap ((↑x : Int) + (1 : Int)) = (↑x' : Int) ∧ True) ∧ True))
 ((-1 : Int) = Pl.idx (fun (y : Int) => !Pl.isSort y) l)) = Goal Try.prog [K_symok1] (A_IndexSort l) K_IndexSort.1 K_IndexSort.2 (l) := by kernel_rfl

theorem vc_ContainsSort (l : List Int) : (Exists fun (x : List Int) => (Is (ints l) (ints x) ∧ True ∧ True) ∧ Sz x ∧ Decidable.decide (Pl.idx (fun (y : Int) => !Pl.isSort y) x ≥ (0 : Int)) = l.any fun (y : Int) => !Pl.isSort y) = Goal Try.prog [K_IndexSort] ([]) K_ContainsSort.1 K_ContainsSort.2 (l) := by kernel_rfl

theorem vc_symok (x : Pl.Sym) : (Exists fun (x_1 : ByteArray) =>
 (x.fst = x_1 ∧ True) ∧
 x_1.size ≤ (1048576 : Nat) ∧
 condP (Pl.nameOk x_1)
 (condP (Decidable.decide ((↑x.snd.fst.length : Int) ≤ (2 : Int)))
 (Exists fun (x_2 : Int) =>
 (x.snd.snd = x_2 ∧ True) ∧
 True ∧
 condP (Pl.isSort x_2) (Exists fun (x_3 : List Int) => (Is (ints x.snd.fst) (ints x_3) ∧ True ∧ True) ∧ Sz x_3 ∧ (!x_3.any fun (y : Int) => !Pl.isSort y) = Pl.symOk x)
 (Bool.false = Pl.symOk x))
 (Bool.false = Pl.symOk x))
 (Bool.false = Pl.symOk x)) = Goal Try.prog [K_iNameOk, K_isSort, K_ContainsSort] ([]) K_symok.1 K_symok.2 (x) := by kernel_rfl

theorem vc_sSigOk (s : Pl.Sig) : ((Exists fun (x : Nat) =>
 (x ≤ List.length s ∧ Pl.sigL Option.none s = Pl.sigL (Pl.prevS s x) (List.drop x s)) ∧ ((0 : Nat) = (0 : Nat) ∧ (0 : Int) = (↑x : Int) ∧ True) ∧ (Is (syms s) (syms s) ∧ True) ∧ True) ∧
 ∀ (x : Nat),
 x ≤ List.length s ∧ Pl.sigL Option.none s = Pl.sigL (Pl.prevS s x) (List.drop x s) →
 condP (Decidable.decide ((↑x : Int) < (↑(List.length s) : Int)))
 (((0 : Int) ≤ (↑x : Int) ∧ (↑x : Int) < (↑(List.length s) : Int)) ∧
 x < List.length s ∧
 Exists fun (x_1 : ByteArray) =>
 ((List.getD s x Pl.dY).fst = x_1 ∧ True) ∧
 x_1.size ≤ (1048576 : Nat) ∧
 condP (!Pl.nameOk x_1) (Bool.false = Pl.sigOk s)
 (condP (Decidable.decide ((↑(List.getD s x Pl.dY).snd.fst.length : Int) > (2 : Int))) (Bool.false = Pl.sigOk s)
 (Exists fun (x_2 : Int) =>
 ((List.getD s x Pl.dY).snd.snd = x_2 ∧ True) ∧
 True ∧
 condP (!Pl.isSort x_2) (Bool.false = Pl.sigOk s)
 (condP (Decidable.decide ((↑x : Int) > (0 : Int)))
 (((0 : Int) ≤ IntKind.i64.wrap ((↑x : Int) - (1 : Int)) ∧ IntKind.i64.wrap ((↑x : Int) - (1 : Int)) < (↑(List.length s) : Int)) ∧
 (IntKind.i64.wrap ((↑x : Int) - (1 : Int))).toNat < List.length s ∧
 condP (!Op.bytesLess (List.getD s (IntKind.i64.wrap ((↑x : Int) - (1 : Int))).toNat Pl.dY).fst.toList (List.getD s x Pl.dY).fst.toList)
 (Bool.false = Pl.sigOk s)
 ((Exists fun (x_3 : Nat) =>
 (x < List.length s ∧
 x_3 ≤ (List.getD s x Pl.dY).snd.fst.length ∧
 (List.getD s x Pl.dY).snd.fst.all Pl.isSort = (List.drop x_3 (List.getD s x Pl.dY).snd.fst).all Pl.isSort ∧
 (Pl.nameOk (List.getD s x Pl.dY).fst && Decidable.decide ((List.getD s x Pl.dY).snd.fst.length ≤ (2 : Nat)) &&
 Pl.isSort (List.getD s x Pl.dY).snd.snd) =
 Bool.true ∧
 Pl.before (Pl.prevS s x) (List.getD s x Pl.dY).fst = Bool.true) ∧
 ((0 : Nat) = (0 : Nat) ∧ (↑x : Int) = (↑x : Int) ∧ (0 : Nat) = (0 : Nat) ∧ (0 : Int) = (↑x_3 : Int) ∧ True) ∧
 (Is (syms s) (syms s) ∧ True) ∧
 ((List.getD s x Pl.dY).fst = (List.getD s x Pl.dY).fst ∧
 Is (ints (List.getD s x Pl.dY).snd.fst) (ints (List.getD s x Pl.dY).snd.fst) ∧
 (List.getD s x Pl.dY).snd.snd = (List.getD s x Pl.dY).snd.snd ∧ True) ∧
 True) ∧
 ∀ (x_3 : Nat),
 x < List.length s ∧
 x_3 ≤ (List.getD s x Pl.dY).snd.fst.length ∧
 (List.getD s x Pl.dY).snd.fst.all Pl.isSort = (List.drop x_3 (List.getD s x Pl.dY).snd.fst).all Pl.isSort ∧
 (Pl.nameOk (List.getD s x Pl.dY).fst && Decidable.decide ((List.getD s x Pl.dY).snd.fst.length ≤ (2 : Nat)) &&
 Pl.isSort (List.getD s x Pl.dY).snd.snd) =
 Bool.true ∧
 Pl.before (Pl.prevS s x) (List.getD s x Pl.dY).fst = Bool.true →
 condP (Decidable.decide ((↑x_3 : Int) < (↑(List.getD s x Pl.dY).snd.fst.length : Int)))
 (((0 : Int) ≤ (↑x_3 : Int) ∧ (↑x_3 : Int) < (↑(List.getD s x Pl.dY).snd.fst.length : Int)) ∧
 x_3 < (List.getD s x Pl.dY).snd.fst.length ∧
 Exists fun (x_4 : Int) =>
 ((List.getD s x Pl.dY).snd.fst.getD x_3 (0 : Int) = x_4 ∧ True) ∧
 True ∧
 condP (!Pl.isSort x_4) (Bool.false = Pl.sigOk s)
 (Exists fun (x' : Nat) =>
 (x < List.length s ∧
 x' ≤ (List.getD s x Pl.dY).snd.fst.length ∧
 (List.getD s x Pl.dY).snd.fst.all Pl.isSort = (List.drop x' (List.getD s x Pl.dY).snd.fst).all Pl.isSort ∧
 (Pl.nameOk (List.getD s x Pl.dY).fst && Decidable.decide ((List.getD s x Pl.dY).snd.fst.length ≤ (2 : Nat)) &&
 Pl.isSort (List.getD s x Pl.dY).snd.snd) =
 Bool.true ∧
 Pl.before (Pl.prevS s x) (List.getD s x Pl.dY).fst = Bool.true) ∧
 (List.getD s x Pl.dY).snd.fst.length - x' < (List.getD s x Pl.dY).snd.fst.length - x_3 ∧
 ((0 : Nat) = (0 : Nat) ∧
 (↑x : Int) = (↑x : Int) ∧ (0 : Nat) = (0 : Nat) ∧ IntKind.i64.wrap ((↑x_3 : Int) + (1 : Int)) = (↑x' : Int) ∧ True) ∧
 (Is (syms s) (syms s) ∧ True) ∧
 ((List.getD s x Pl.dY).fst = (List.getD s x Pl.dY).fst ∧
 Is (ints (List.getD s x Pl.dY).snd.fst) (ints (List.getD s x Pl.dY).snd.fst) ∧
 (List.getD s x Pl.dY).snd.snd = (List.getD s x Pl.dY).snd.snd ∧ True) ∧
 True))
 (Exists fun (x' : Nat) =>
 (x' ≤ List.length s ∧ Pl.sigL Option.none s = Pl.sigL (Pl.prevS s x') (List.drop x' s)) ∧
 List.length s - x' < List.length s - x ∧
 ((0 : Nat) = (0 : Nat) ∧ IntKind.i64.wrap ((↑x : Int) + (1 : Int)) = (↑x' : Int) ∧ True) ∧ (Is (syms s) (syms s) ∧ True) ∧ True)))
 ((Exists fun (x_3 : Nat) =>
 (x < List.length s ∧
 x_3 ≤ (List.getD s x Pl.dY).snd.fst.length ∧
 (List.getD s x Pl.dY).snd.fst.all Pl.isSort = (List.drop x_3 (List.getD s x Pl.dY).snd.fst).all Pl.isSort ∧
 (Pl.nameOk (List.getD s x Pl.dY).fst && Decidable.decide ((List.getD s x Pl.dY).snd.fst.length ≤ (2 : Nat)) && Pl.isSort (List.getD s x Pl.dY).snd.snd) =
 Bool.true ∧
 Pl.before (Pl.prevS s x) (List.getD s x Pl.dY).fst = Bool.true) ∧
 ((0 : Nat) = (0 : Nat) ∧ (↑x : Int) = (↑x : Int) ∧ (0 : Nat) = (0 : Nat) ∧ (0 : Int) = (↑x_3 : Int) ∧ True) ∧
 (Is (syms s) (syms s) ∧ True) ∧
 ((List.getD s x Pl.dY).fst = (List.getD s x Pl.dY).fst ∧
 Is (ints (List.getD s x Pl.dY).snd.fst) (ints (List.getD s x Pl.dY).snd.fst) ∧
 (List.getD s x Pl.dY).snd.snd = (List.getD s x Pl.dY).snd.snd ∧ True) ∧
 True) ∧
 ∀ (x_3 : Nat),
 x < List.length s ∧
 x_3 ≤ (List.getD s x Pl.dY).snd.fst.length ∧
 (List.getD s x Pl.dY).snd.fst.all Pl.isSort = (List.drop x_3 (List.getD s x Pl.dY).snd.fst).all Pl.isSort ∧
 (Pl.nameOk (List.getD s x Pl.dY).fst && Decidable.decide ((List.getD s x Pl.dY).snd.fst.length ≤ (2 : Nat)) && Pl.isSort (List.getD s x Pl.dY).snd.snd) =
 Bool.true ∧
 Pl.before (Pl.prevS s x) (List.getD s x Pl.dY).fst = Bool.true →
 condP (Decidable.decide ((↑x_3 : Int) < (↑(List.getD s x Pl.dY).snd.fst.length : Int)))
 (((0 : Int) ≤ (↑x_3 : Int) ∧ (↑x_3 : Int) < (↑(List.getD s x Pl.dY).snd.fst.length : Int)) ∧
 x_3 < (List.getD s x Pl.dY).snd.fst.length ∧
 Exists fun (x_4 : Int) =>
 ((List.getD s x Pl.dY).snd.fst.getD x_3 (0 : Int) = x_4 ∧ True) ∧
 True ∧
 condP (!Pl.isSort x_4) (Bool.false = Pl.sigOk s)
 (Exists fun (x' : Nat) =>
 (x < List.length s ∧
 x' ≤ (List.getD s x Pl.dY).snd.fst.length ∧
 (List.getD s x Pl.dY).snd.fst.all Pl.isSort = (List.drop x' (List.getD s x Pl.dY).snd.fst).all Pl.isSort ∧
 (Pl.nameOk (List.getD s x Pl.dY).fst && Decidable.decide ((List.getD s x Pl.dY).snd.fst.length ≤ (2 : Nat)) &&
 Pl.isSort (List.getD s x Pl.dY).snd.snd) =
 Bool.true ∧
 Pl.before (Pl.prevS s x) (List.getD s x Pl.dY).fst = Bool.true) ∧
 (List.getD s x Pl.dY).snd.fst.length - x' < (List.getD s x Pl.dY).snd.fst.length - x_3 ∧
 ((0 : Nat) = (0 : Nat) ∧
 (↑x : Int) = (↑x : Int) ∧ (0 : Nat) = (0 : Nat) ∧ IntKind.i64.wrap ((↑x_3 : Int) + (1 : Int)) = (↑x' : Int) ∧ True) ∧
 (Is (syms s) (syms s) ∧ True) ∧
 ((List.getD s x Pl.dY).fst = (List.getD s x Pl.dY).fst ∧
 Is (ints (List.getD s x Pl.dY).snd.fst) (ints (List.getD s x Pl.dY).snd.fst) ∧
 (List.getD s x Pl.dY).snd.snd = (List.getD s x Pl.dY).snd.snd ∧ True) ∧
 True))
 (Exists fun (x' : Nat) =>
 (x' ≤ List.length s ∧ Pl.sigL Option.none s = Pl.sigL (Pl.prevS s x') (List.drop x' s)) ∧
 List.length s - x' < List.length s - x ∧
 ((0 : Nat) = (0 : Nat) ∧ IntKind.i64.wrap ((↑x : Int) + (1 : Int)) = (↑x' : Int) ∧ True) ∧ (Is (syms s) (syms s) ∧ True) ∧ True))))))
 (Decidable.decide ((↑(List.length s) : Int) ≤ (7 : Int)) = Pl.sigOk s)) = Goal Try.prog [K_sNameOk, K_l4Sort] (A_sSigOk s) K_sSigOk.1 K_sSigOk.2 (s) := by kernel_rfl

theorem vc_iSigOk (s : Pl.Sig) : ((Exists fun (x : Nat) =>
 (x ≤ List.length s ∧ Pl.sigL Option.none s = Pl.sigL (Pl.prevS s x) (List.drop x s)) ∧
 ((0 : Nat) = (0 : Nat) ∧ Is (syms s) (syms s) ∧ (↑(List.length s) : Int) = (↑(List.length s) : Int) ∧ (0 : Int) = (↑x : Int) ∧ True) ∧ (Is (syms s) (syms s) ∧ True) ∧ True) ∧
 ∀ (x : Nat),
 x ≤ List.length s ∧ Pl.sigL Option.none s = Pl.sigL (Pl.prevS s x) (List.drop x s) →
 condP (Decidable.decide ((↑x : Int) < (↑(List.length s) : Int)))
 (((0 : Int) ≤ (↑x : Int) ∧ (↑x : Int) < (↑(List.length s) : Int)) ∧
 x < List.length s ∧
 Exists fun (x_1 : Pl.Sym) =>
 (((List.getD s x Pl.dY).fst = x_1.fst ∧ Is (ints (List.getD s x Pl.dY).snd.fst) (ints x_1.snd.fst) ∧ (List.getD s x Pl.dY).snd.snd = x_1.snd.snd ∧ True) ∧ True) ∧
 (x_1.fst.size ≤ (1048576 : Nat) ∧ Sz x_1.snd.fst) ∧
 condP (!Pl.symOk x_1) (Bool.false = Pl.sigOk s)
 (condP (Decidable.decide ((↑x : Int) > (0 : Int)))
 (((0 : Int) ≤ IntKind.i64.wrap ((↑x : Int) - (1 : Int)) ∧ IntKind.i64.wrap ((↑x : Int) - (1 : Int)) < (↑(List.length s) : Int)) ∧
 (IntKind.i64.wrap ((↑x : Int) - (1 : Int))).toNat < List.length s ∧
 condP (!Op.bytesLess (List.getD s (IntKind.i64.wrap ((↑x : Int) - (1 : Int))).toNat Pl.dY).fst.toList (List.getD s x Pl.dY).fst.toList) (Bool.false = Pl.sigOk s)
 (Exists fun (x' : Nat) =>
 (x' ≤ List.length s ∧ Pl.sigL Option.none s = Pl.sigL (Pl.prevS s x') (List.drop x' s)) ∧
 List.length s - x' < List.length s - x ∧
 ((0 : Nat) = (0 : Nat) ∧
 Is (syms s) (syms s) ∧ (↑(List.length s) : Int) = (↑(List.length s) : Int) ∧ IntKind.i64.wrap ((↑x : Int) + (1 : Int)) = (↑x' : Int) ∧ True) ∧
 (Is (syms s) (syms s) ∧ True) ∧ True))
 (Exists fun (x' : Nat) =>
 (x' ≤ List.length s ∧ Pl.sigL Option.none s = Pl.sigL (Pl.prevS s x') (List.drop x' s)) ∧
 List.length s - x' < List.length s - x ∧
 ((0 : Nat) = (0 : Nat) ∧
 Is (syms s) (syms s) ∧ (↑(List.length s) : Int) = (↑(List.length s) : Int) ∧ IntKind.i64.wrap ((↑x : Int) + (1 : Int)) = (↑x' : Int) ∧ True) ∧
 (Is (syms s) (syms s) ∧ True) ∧ True)))
 (Decidable.decide ((↑(List.length s) : Int) ≤ (7 : Int)) = Pl.sigOk s)) = Goal Try.prog [K_symok] (A_iSigOk s) K_iSigOk.1 K_iSigOk.2 (s) := by kernel_rfl

end Cg

/-
  What is left to show of each function's code, printed by a program: Rows. No condition.
-/
set_option maxRecDepth 100000
set_option linter.unusedVariables false
namespace Cg
open Go Go.Proofs
end Cg

/-
  What is left to show of each function's code, printed by a program: Clause. No condition.
-/
set_option maxRecDepth 100000
set_option linter.unusedVariables false
namespace Cg
open Go Go.Proofs
theorem vc_within (x y z : Int) : (condP (Decidable.decide (y ≤ x)) (Decidable.decide (x ≤ z) = Pl.withinI x y z) (Bool.false = Pl.withinI x y z)) = Goal Try.prog [] ([]) K_within.1 K_within.2 ((x, y, z)) := by kernel_rfl

end Cg

/-
  The codes' contracts: clauses. No condition.
-/
set_option linter.unusedVariables false
set_option linter.unusedSimpArgs false
set_option maxRecDepth 100000
namespace Cg
open Go Go.Proofs

theorem hm : Try.prog.follows .mixedOrders = true := by kernel_rfl

theorem k_within : SoundC Try.prog K_within.1 K_within.2 := sound_of hm CtxOK.nil (fun _ => []) (by kernel_rfl) fun ((x, y, z) : Int × Int × Int) _ => cast (vc_within x y z) (by
  simp [Pl.withinI]
  omega)

theorem eq_step {α : Type} [DecidableEq α] (d : α) {l m : List α} {k : Nat} (hk : k < l.length) (hm : l.length = m.length) (he : l = m ↔ l.drop k = m.drop k) :
    (¬ l.getD k d = m.getD k d → ¬ l = m) ∧ (l.getD k d = m.getD k d → (l = m ↔ l.drop (k + 1) = m.drop (k + 1))) := by
  rw [drop_get d hk, drop_get (l := m) d (by omega)] at he
  exact ⟨fun h e => h (by have := he.1 e; injection this), fun h => by rw [he, h]; simp⟩

end Cg

/-
  The plain law of clauses: both ways to tell one give the same. No condition.
-/
set_option linter.unusedVariables false
set_option linter.unusedSimpArgs false
namespace Pl
open Go

end Pl


/-
  The codes' contracts: rows of rows, values of marks. No condition.
-/
set_option linter.unusedVariables false
set_option linter.unusedSimpArgs false
set_option maxRecDepth 100000
namespace Cg
open Go Go.Proofs

theorem idx_lt {α : Type} (p : α → Bool) : ∀ l : List α, -1 ≤ Pl.idx p l
  | [] => by simp [Pl.idx]
  | x :: l => by have := idx_lt p l; simp only [Pl.idx]; split <;> (try split) <;> omega

/-- One round of slices.IndexFunc. -/
theorem idx_step {α : Type} (d : α) (p : α → Bool) {l : List α} {k : Nat} (hk : k < l.length) (he : Pl.idx p l = if Pl.idx p (l.drop k) < 0 then -1 else Pl.idx p (l.drop k) + k) :
    (p (l.getD k d) = true → (k : Int) = Pl.idx p l) ∧ (p (l.getD k d) = false → Pl.idx p l = if Pl.idx p (l.drop (k + 1)) < 0 then -1 else Pl.idx p (l.drop (k + 1)) + ((k + 1 : Nat) : Int)) := by
  rw [drop_get d hk] at he
  have := idx_lt p (l.drop (k + 1))
  refine ⟨fun h => ?_, fun h => ?_⟩
  · rw [he]; simp only [Pl.idx, h, if_true]; simp
  · rw [he]
    simp only [Pl.idx, h, Bool.false_eq_true, if_false]
    split
    · simp
    · split <;> omega
theorem idx_init {α : Type} (p : α → Bool) (l : List α) : Pl.idx p l = if Pl.idx p (l.drop 0) < 0 then -1 else Pl.idx p (l.drop 0) + ((0 : Nat) : Int) := by
  have := idx_lt p l
  simp only [List.drop_zero]
  split <;> omega
theorem idx_end {α : Type} (p : α → Bool) {l : List α} {k : Nat} (hk : l.length ≤ k) (he : Pl.idx p l = if Pl.idx p (l.drop k) < 0 then -1 else Pl.idx p (l.drop k) + k) : -1 = Pl.idx p l := by
  rw [he, drop_end (by omega)]; simp [Pl.idx]

theorem idx_any {α : Type} (p : α → Bool) : ∀ l : List α, decide (Pl.idx p l ≥ 0) = l.any p
  | [] => by simp [Pl.idx]
  | x :: l => by
    have h := idx_any p l
    have := idx_lt p l
    simp only [Pl.idx, List.any_cons]
    by_cases hp : p x = true
    · simp [hp]
    · simp only [hp, Bool.false_eq_true, if_false, Bool.false_or]
      rw [← h]
      by_cases hq : Pl.idx p l < 0
      · rw [if_pos hq, decide_eq_false (by omega), decide_eq_false (by omega)]
      · rw [if_neg hq, decide_eq_true (by omega), decide_eq_true (by omega)]

end Cg

/-
  The codes' contracts: words. No condition.
-/
set_option linter.unusedVariables false
set_option linter.unusedSimpArgs false
set_option maxRecDepth 100000
namespace Pl
open Go Cg
theorem bs_len (s : ByteArray) : (bs s).length = s.size := rfl
theorem data_getD (s : ByteArray) (k : Nat) : s.data.getD k 0 = (bs s).getD k 0 := by
  unfold bs
  rw [Array.getD_eq_getD_getElem?, List.getD_eq_getElem?_getD, Array.getElem?_toList]
theorem data_getE (s : ByteArray) (k : Nat) : s.data[k]?.getD 0 = (bs s).getD k 0 := by
  rw [← data_getD, Array.getD_eq_getD_getElem?]
theorem sumN_take {α : Type} (f : α → Nat) (d : α) {l : List α} {k : Nat} (h : k < l.length) : sumN f (l.take (k + 1)) = sumN f (l.take k) + f (l.getD k d) := by
  rw [List.take_succ_eq_append_getElem h]
  have : ∀ (m : List α) (x : α), sumN f (m ++ [x]) = sumN f m + f x := by
    intro m x
    induction m with
    | nil => simp [sumN]
    | cons y r ih => simp only [List.cons_append, sumN, ih]; omega
  rw [this]; simp [h]
theorem sumN_take_le {α : Type} (f : α → Nat) (l : List α) (k : Nat) : sumN f (l.take k) ≤ sumN f l := by
  induction l generalizing k with
  | nil => simp
  | cons x r ih =>
    cases k with
    | zero => simp [sumN]
    | succ k => simp only [List.take_succ_cons, sumN]; have := ih k; omega
theorem sumN_mem {α : Type} (f : α → Nat) {x : α} : ∀ {l : List α}, x ∈ l → f x ≤ sumN f l
  | y :: r, h => by
    simp only [sumN]
    cases List.mem_cons.1 h with
    | inl e => subst e; omega
    | inr e => have := sumN_mem f e; omega
end Pl
namespace Cg
open Go Go.Proofs Pl

theorem SmG.mem {s : Sig} (h : SmG s) {x : Sym} (hx : x ∈ s) : x.1.size ≤ 1048576 ∧ x.2.1.length ≤ 1048576 := by
  have h1 : s.length + sumN costY s ≤ 1048576 := h
  have h2 := sumN_mem costY hx
  have h3 : costY x = x.1.size + x.2.1.length := rfl
  omega
theorem SmG.len {s : Sig} (h : SmG s) : s.length ≤ 1048576 := by
  have h1 : s.length + sumN costY s ≤ 1048576 := h
  omega

theorem name_step {s : ByteArray} {k : Nat} (hk : k < s.size) (he : (bs s).all lower = ((bs s).drop k).all lower) :
    ((((bs s).getD k 0).toNat : Int) < 97 → nameOk s = false) ∧ (122 < (((bs s).getD k 0).toNat : Int) → nameOk s = false) ∧ (97 ≤ (((bs s).getD k 0).toNat : Int) → (((bs s).getD k 0).toNat : Int) ≤ 122 → (bs s).all lower = ((bs s).drop (k + 1)).all lower) := by
  rw [drop_get 0 (by rw [bs_len]; exact hk), List.all_cons] at he
  have no : lower ((bs s).getD k 0) = false → nameOk s = false := fun h => by
    unfold nameOk; rw [he, h]; simp
  refine ⟨fun h => no (by simp [lower, h, -List.getD_eq_getElem?_getD]), fun h => no (by simp [lower, h, -List.getD_eq_getElem?_getD]), fun h1 h2 => ?_⟩
  have : lower ((bs s).getD k 0) = true := by
    unfold lower; rw [decide_eq_false (by omega), decide_eq_false (by omega)]; rfl
  rw [he, this, Bool.true_and]

theorem k_sNameOk : SoundC Try.prog K_sNameOk.1 K_sNameOk.2 := sound_of hm CtxOK.nil A_sNameOk (by kernel_rfl) fun (s : ByteArray) hl => cast (vc_sNameOk s) (by
  replace hl : s.size ≤ 1048576 := hl
  simp [-List.getD_eq_getElem?_getD, -List.mem_cons, -Bool.forall_bool, -Bool.exists_bool, and_assoc, peta, tl_inj, ex_1, ex_2, ex_3, ex_4, ex_5, ex_6, ex_7, ex_8, ex_9, ey_2, ey_3, ey_4, ey_5, ey_6, ey_7, ey_8, ey_9]
  simp only [data_getE]
  refine ⟨⟨0, by simp, by simp, rfl⟩, fun k hk he => ⟨fun hlt => ?_, fun hge => ?_⟩⟩
  · obtain ⟨h1, h2, h3⟩ := name_step hlt he
    exact ⟨hlt, h1, fun h4 => ⟨hlt, h2, fun h5 => ⟨k + 1, hlt, h3 h4 h5, by omega, wrap_small (by omega) (by omega)⟩⟩⟩
  · rw [drop_end (by rw [bs_len]; omega)] at he
    unfold nameOk
    rw [he]
    refine ⟨fun h => ?_, fun h => ?_⟩
    · rw [decide_eq_true (by omega : 1 ≤ s.size)]; simp; omega
    · rw [decide_eq_false (by omega : ¬ 1 ≤ s.size)]; rfl)

theorem k_iNameOk : SoundC Try.prog K_iNameOk.1 K_iNameOk.2 := sound_of hm (CtxOK.nil.and k_within) A_iNameOk (by kernel_rfl) fun (s : ByteArray) hl => cast (vc_iNameOk s) (by
  replace hl : s.size ≤ 1048576 := hl
  simp [-List.getD_eq_getElem?_getD, -List.mem_cons, -Bool.forall_bool, -Bool.exists_bool, and_assoc, peta, tl_inj, ex_1, ex_2, ex_3, ex_4, ex_5, ex_6, ex_7, ex_8, ex_9, ey_2, ey_3, ey_4, ey_5, ey_6, ey_7, ey_8, ey_9]
  simp only [data_getE]
  refine ⟨fun h => ?_, fun h => ?_⟩
  · simp only [withinI, Bool.and_eq_false_iff, decide_eq_false_iff_not] at h
    unfold nameOk
    rcases h with h | h
    · rw [decide_eq_false (by omega : ¬ 1 ≤ s.size)]; rfl
    · rw [decide_eq_false (by omega : ¬ s.size ≤ 2)]; simp
  · simp only [withinI, Bool.and_eq_true, decide_eq_true_eq] at h
    refine ⟨⟨0, by simp, by simp, rfl⟩, fun k hk he => ⟨fun hlt => ?_, fun hge => ?_⟩⟩
    · obtain ⟨h1, h2, h3⟩ := name_step hlt he
      exact ⟨hlt, h1, fun h4 => ⟨hlt, h2, fun h5 => ⟨k + 1, hlt, h3 h4 h5, by omega, wrap_small (by omega) (by omega)⟩⟩⟩
    · rw [drop_end (by rw [bs_len]; omega)] at he
      unfold nameOk
      rw [he, decide_eq_true (by omega : 1 ≤ s.size), decide_eq_true (by omega : s.size ≤ 2)]
      rfl)

theorem k_l4Sort : SoundC Try.prog K_l4Sort.1 K_l4Sort.2 := sound_of hm CtxOK.nil (fun _ => []) (by kernel_rfl) fun (x : Int) _ => cast (vc_l4Sort x) (by
  simp [-List.getD_eq_getElem?_getD, -List.mem_cons, -Bool.forall_bool, -Bool.exists_bool, and_assoc, peta, tl_inj, ex_1, ex_2, ex_3, ex_4, ex_5, ex_6, ex_7, ex_8, ex_9, ey_2, ey_3, ey_4, ey_5, ey_6, ey_7, ey_8, ey_9]
  exact ⟨fun h => by simp [isSort, h], fun h => by simp [isSort, h, Bool.beq_eq_decide_eq]⟩)
theorem k_isSort : SoundC Try.prog K_isSort.1 K_isSort.2 := sound_of hm CtxOK.nil (fun _ => []) (by kernel_rfl) fun (x : Int) _ => cast (vc_isSort x) (by
  simp [-List.getD_eq_getElem?_getD, -List.mem_cons, -Bool.forall_bool, -Bool.exists_bool, and_assoc, peta, tl_inj, ex_1, ex_2, ex_3, ex_4, ex_5, ex_6, ex_7, ex_8, ex_9, ey_2, ey_3, ey_4, ey_5, ey_6, ey_7, ey_8, ey_9]
  exact ⟨fun h => by simp [isSort, h], fun h => by simp [isSort, h, Bool.beq_eq_decide_eq]⟩)
theorem k_symok1 : SoundC Try.prog K_symok1.1 K_symok1.2 := sound_of hm (CtxOK.nil.and k_isSort) (fun _ => []) (by kernel_rfl) fun (x : Int) _ => cast (vc_symok1 x) (by
  simp [-List.getD_eq_getElem?_getD, -List.mem_cons, -Bool.forall_bool, -Bool.exists_bool, and_assoc, peta, tl_inj, ex_1, ex_2, ex_3, ex_4, ex_5, ex_6, ex_7, ex_8, ex_9, ey_2, ey_3, ey_4, ey_5, ey_6, ey_7, ey_8, ey_9])
theorem k_IndexSort : SoundC Try.prog K_IndexSort.1 K_IndexSort.2 := sound_of hm (CtxOK.nil.and k_symok1) A_IndexSort (by kernel_rfl) fun (l : List Int) hl => cast (vc_IndexSort l) (by
  replace hl : Sz l := hl
  simp [-List.getD_eq_getElem?_getD, -List.mem_cons, -Bool.forall_bool, -Bool.exists_bool, and_assoc, peta, tl_inj, ex_1, ex_2, ex_3, ex_4, ex_5, ex_6, ex_7, ex_8, ex_9, ey_2, ey_3, ey_4, ey_5, ey_6, ey_7, ey_8, ey_9]
  exact ⟨⟨0, by simp, idx_init _ _, rfl⟩, fun k hk he => ⟨fun hlt => ⟨hlt, fun h => (idx_step 0 _ hlt he).1 (by simp [h, -List.getD_eq_getElem?_getD]), fun h => ⟨k + 1, hlt, (idx_step 0 _ hlt he).2 (by simp [h, -List.getD_eq_getElem?_getD]), by omega, wrap_succ hlt hl⟩⟩, fun hge => idx_end _ hge he⟩⟩)
theorem k_ContainsSort : SoundC Try.prog K_ContainsSort.1 K_ContainsSort.2 := sound_of hm (CtxOK.nil.and k_IndexSort) (fun _ => []) (by kernel_rfl) fun (l : List Int) hl => cast (vc_ContainsSort l) (by
  replace hl : Sz l := hl
  simp only [idx_any]
  simp [-List.getD_eq_getElem?_getD, -List.mem_cons, -Bool.forall_bool, -Bool.exists_bool, and_assoc, peta, tl_inj, ex_1, ex_2, ex_3, ex_4, ex_5, ex_6, ex_7, ex_8, ex_9, ey_2, ey_3, ey_4, ey_5, ey_6, ey_7, ey_8, ey_9]
  exact hl)
theorem all_any {α : Type} (p : α → Bool) (l : List α) : l.all p = !(l.any fun y => !p y) := by
  induction l with
  | nil => rfl
  | cons x r ih => simp only [List.all_cons, List.any_cons, ih]; cases p x <;> rfl

theorem k_symok : SoundC Try.prog K_symok.1 K_symok.2 := sound_of hm (((CtxOK.nil.and k_ContainsSort).and k_isSort).and k_iNameOk) (fun _ => []) (by kernel_rfl) fun (x : Sym) hl => cast (vc_symok x) (by
  obtain ⟨h1, h2⟩ : x.1.size ≤ 1048576 ∧ Sz x.2.1 := hl
  simp [-List.getD_eq_getElem?_getD, -List.mem_cons, -Bool.forall_bool, -Bool.exists_bool, and_assoc, peta, tl_inj, ex_1, ex_2, ex_3, ex_4, ex_5, ex_6, ex_7, ex_8, ex_9, ey_2, ey_3, ey_4, ey_5, ey_6, ey_7, ey_8, ey_9]
  refine ⟨h1, fun h3 => ⟨fun h4 => ⟨fun h5 => ⟨h2, ?_⟩, fun h5 => by simp [symOk, h5]⟩, fun h4 => ?_⟩, fun h3 => by simp [symOk, h3]⟩
  · unfold symOk
    rw [h3, h5, decide_eq_true (by omega : x.2.1.length ≤ 2), all_any]; simp
  · unfold symOk
    rw [decide_eq_false (by omega : ¬ x.2.1.length ≤ 2)]; simp)

theorem sig_step {s : Sig} {k : Nat} (hk : k < s.length) (he : sigL none s = sigL (prevS s k) (s.drop k)) :
    (symOk (s.getD k dY) = false → sigOk s = false) ∧ (before (prevS s k) (s.getD k dY).1 = false → sigOk s = false) ∧ (symOk (s.getD k dY) = true → before (prevS s k) (s.getD k dY).1 = true → sigL none s = sigL (prevS s (k + 1)) (s.drop (k + 1))) := by
  rw [drop_get dY hk] at he
  simp only [sigL] at he
  refine ⟨fun h => ?_, fun h => ?_, fun h1 h2 => ?_⟩
  · unfold sigOk; rw [he, h]; simp
  · unfold sigOk; rw [he, h]; simp
  · rw [he, h1, h2]
    simp [prevS, -List.getD_eq_getElem?_getD]
theorem sig_end {s : Sig} {k : Nat} (hk : s.length ≤ k) (he : sigL none s = sigL (prevS s k) (s.drop k)) : sigOk s = decide ((s.length : Int) ≤ 7) := by
  rw [drop_end (by omega)] at he
  unfold sigOk
  rw [he]
  simp only [sigL, Bool.true_and]
  congr 1
  simp only [eq_iff_iff]; omega

theorem sSigOk_inner {s : Sig} (hl : SmG s) {k : Nat} (hlt : k < s.length) (he : sigL none s = sigL (prevS s k) (s.drop k)) (h1 : nameOk (s.getD k dY).1 = true) (h2 : (s.getD k dY).2.1.length ≤ 2) (h3 : isSort (s.getD k dY).2.2 = true) (h4 : before (prevS s k) (s.getD k dY).1 = true) :
    k < s.length ∧
      (∃ x_1, x_1 ≤ (s.getD k dY).2.1.length ∧ (s.getD k dY).2.1.all isSort = ((s.getD k dY).2.1.drop x_1).all isSort ∧ nameOk (s.getD k dY).1 = true ∧ (s.getD k dY).2.1.length ≤ 2 ∧ isSort (s.getD k dY).2.2 = true ∧ before (prevS s k) (s.getD k dY).1 = true ∧ (0 : Int) = (x_1 : Int)) ∧
      ∀ (j : Nat), k < s.length → j ≤ (s.getD k dY).2.1.length → (s.getD k dY).2.1.all isSort = ((s.getD k dY).2.1.drop j).all isSort → nameOk (s.getD k dY).1 = true → (s.getD k dY).2.1.length ≤ 2 → isSort (s.getD k dY).2.2 = true → before (prevS s k) (s.getD k dY).1 = true →
        (j < (s.getD k dY).2.1.length → j < (s.getD k dY).2.1.length ∧ (isSort ((s.getD k dY).2.1.getD j 0) = false → sigOk s = false) ∧
          (isSort ((s.getD k dY).2.1.getD j 0) = true → k < s.length ∧ ∃ x_1, x_1 ≤ (s.getD k dY).2.1.length ∧ (s.getD k dY).2.1.all isSort = ((s.getD k dY).2.1.drop x_1).all isSort ∧ nameOk (s.getD k dY).1 = true ∧ (s.getD k dY).2.1.length ≤ 2 ∧ isSort (s.getD k dY).2.2 = true ∧ before (prevS s k) (s.getD k dY).1 = true ∧ (s.getD k dY).2.1.length - x_1 < (s.getD k dY).2.1.length - j ∧ IntKind.i64.wrap ((j : Int) + 1) = (x_1 : Int))) ∧
        ((s.getD k dY).2.1.length ≤ j → ∃ x', x' ≤ s.length ∧ sigL none s = sigL (prevS s x') (s.drop x') ∧ s.length - x' < s.length - k ∧ IntKind.i64.wrap ((k : Int) + 1) = (x' : Int)) := by
  have hlen := hl.len
  obtain ⟨e1, e2, e3⟩ := sig_step hlt he
  refine ⟨hlt, ⟨0, by simp, by simp, h1, h2, h3, h4, rfl⟩, fun j _ hj hj2 _ _ _ _ => ⟨fun hjl => ⟨hjl, fun h => ?_, fun h => ⟨hlt, j + 1, hjl, ?_, h1, h2, h3, h4, by omega, wrap_small (by omega) (by omega)⟩⟩, fun hge => ⟨k + 1, hlt, e3 ?_ h4, by omega, wrap_small (by omega) (by omega)⟩⟩⟩
  · rw [drop_get 0 hjl, List.all_cons, h, Bool.false_and] at hj2
    exact e1 (by unfold symOk; rw [hj2]; simp)
  · rw [hj2, drop_get 0 hjl, List.all_cons, h, Bool.true_and]
  · rw [drop_end (by omega)] at hj2
    unfold symOk
    rw [hj2, h1, h3, decide_eq_true h2]; rfl

theorem k_sSigOk : SoundC Try.prog K_sSigOk.1 K_sSigOk.2 := sound_of hm ((CtxOK.nil.and k_l4Sort).and k_sNameOk) A_sSigOk (by kernel_rfl) fun (s : Sig) hl => cast (vc_sSigOk s) (by
  replace hl : SmG s := hl
  simp [-List.getD_eq_getElem?_getD, -List.mem_cons, -Bool.forall_bool, -Bool.exists_bool, and_assoc, peta, tl_inj, ex_1, ex_2, ex_3, ex_4, ex_5, ex_6, ex_7, ex_8, ex_9, ey_2, ey_3, ey_4, ey_5, ey_6, ey_7, ey_8, ey_9]
  have hlen := hl.len
  refine ⟨⟨0, by simp, by simp [prevS], rfl⟩, fun k hk he => ⟨fun hlt => ?_, fun hge => (sig_end hge he).symm⟩⟩
  obtain ⟨m1, m2⟩ := hl.mem (getD_mem dY hlt)
  obtain ⟨e1, e2, e3⟩ := sig_step hlt he
  have inner : nameOk (s.getD k dY).1 = true → (s.getD k dY).2.1.length ≤ 2 → isSort (s.getD k dY).2.2 = true → before (prevS s k) (s.getD k dY).1 = true → _ := sSigOk_inner hl hlt he
  refine ⟨hlt, m1, fun h => e1 (by unfold symOk; rw [h]; rfl), fun h1 => ⟨fun h => e1 ?_, fun h2 => ⟨fun h => e1 (by unfold symOk; rw [h]; simp), fun h3 => ⟨fun h4 => ?_, fun h4 => inner h1 (by omega) h3 (by rw [h4]; rfl)⟩⟩⟩⟩
  · unfold symOk; rw [decide_eq_false (by omega : ¬ (s.getD k dY).2.1.length ≤ 2)]; simp
  · rw [wrap_small (by omega) (by omega)]
    have e : ((k : Int) - 1).toNat = k - 1 := by omega
    rw [e]
    have hb : before (prevS s k) (s.getD k dY).1 = Op.bytesLess (s.getD (k - 1) dY).1.toList (s.getD k dY).1.toList := by
      unfold prevS; rw [if_neg (by omega)]; rfl
    exact ⟨by omega, by omega, by omega, fun h => e2 (by rw [hb, h]), fun h => inner h1 (by omega) h3 (by rw [hb, h])⟩)

theorem k_iSigOk : SoundC Try.prog K_iSigOk.1 K_iSigOk.2 := sound_of hm (CtxOK.nil.and k_symok) A_iSigOk (by kernel_rfl) fun (s : Sig) hl => cast (vc_iSigOk s) (by
  replace hl : SmG s := hl
  simp [-List.getD_eq_getElem?_getD, -List.mem_cons, -Bool.forall_bool, -Bool.exists_bool, and_assoc, peta, tl_inj, ex_1, ex_2, ex_3, ex_4, ex_5, ex_6, ex_7, ex_8, ex_9, ey_2, ey_3, ey_4, ey_5, ey_6, ey_7, ey_8, ey_9]
  have hlen := hl.len
  refine ⟨⟨0, by simp, by simp [prevS], rfl⟩, fun k hk he => ⟨fun hlt => ?_, fun hge => (sig_end hge he).symm⟩⟩
  obtain ⟨m1, m2⟩ := hl.mem (getD_mem dY hlt)
  obtain ⟨e1, e2, e3⟩ := sig_step hlt he
  refine ⟨hlt, m1, by omega, e1, fun h1 => ⟨fun h4 => ?_, fun h4 => ⟨k + 1, hlt, e3 h1 (by rw [h4]; rfl), by omega, wrap_small (by omega) (by omega)⟩⟩⟩
  rw [wrap_small (by omega) (by omega)]
  have e : ((k : Int) - 1).toNat = k - 1 := by omega
  rw [e]
  have hb : before (prevS s k) (s.getD k dY).1 = Op.bytesLess (s.getD (k - 1) dY).1.toList (s.getD k dY).1.toList := by
    unfold prevS; rw [if_neg (by omega)]; rfl
  exact ⟨by omega, by omega, by omega, fun h => e2 (by rw [hb, h]), fun h => ⟨k + 1, hlt, e3 h1 (by rw [hb, h]), by omega, wrap_small (by omega) (by omega)⟩⟩)

end Cg

/-
  The codes' contracts: terms. No condition.
-/
set_option linter.unusedVariables false
set_option linter.unusedSimpArgs false
set_option maxRecDepth 100000
set_option maxHeartbeats 4000000
namespace Pl
open Go Cg
theorem tparts' {t u : Tm} {p : Prop} : (t.val = u.val → t.kids = u.kids → p) ↔ (t = u → p) := ⟨fun h e => h (by rw [e]) (by rw [e]), fun h e1 e2 => h (Tree.ext e1 e2)⟩
theorem manyL_kids {l : List Tm} {t : Tm} (h : t ∈ l) : manyL t.kids < manyL l := by
  have := many_mem h
  have := t.many_eq
  omega
end Pl
namespace Cg
open Go Go.Proofs Pl
theorem SmTs.mem {l : List Tm} (h : SmTs l) {t : Tm} (ht : t ∈ l) : SmT t := by
  have := costT_mem ht
  have h1 : l.length + costTs l ≤ 1048576 := h
  show costT t ≤ 1048576
  omega
theorem SmTs.len {l : List Tm} (h : SmTs l) : l.length ≤ 1048576 := by
  have h1 : l.length + costTs l ≤ 1048576 := h
  omega
theorem SmT.kids {v : ByteArray} {ks : List Tm} (h : SmT (.mk v ks)) : SmTs ks := by
  have h1 : costT (.mk v ks) ≤ 1048576 := h
  rw [costT_eq] at h1
  simp only [Tree.val, Tree.kids] at h1
  show ks.length + costTs ks ≤ 1048576
  omega

end Cg

/-
  The codes' contracts: the sorts of terms. No condition.
-/
set_option linter.unusedVariables false
set_option linter.unusedSimpArgs false
set_option maxRecDepth 100000
set_option maxHeartbeats 1000000
namespace Pl
open Go Cg
theorem sumN_congr {α : Type} {f g : α → Nat} : ∀ {l : List α}, (∀ x ∈ l, f x = g x) → sumN f l = sumN g l
  | [], _ => rfl
  | x :: r, h => by simp only [sumN]; rw [h x List.mem_cons_self, sumN_congr fun y hy => h y (List.mem_cons_of_mem _ hy)]
theorem sumN_le {α : Type} {f : α → Nat} {b : Nat} : ∀ {l : List α}, (∀ x ∈ l, f x ≤ b) → sumN f l ≤ l.length * b
  | [], _ => Nat.zero_le _
  | x :: r, h => by
    simp only [sumN, List.length_cons, Nat.add_mul, Nat.one_mul]
    have := h x List.mem_cons_self
    have := sumN_le (l := r) fun y hy => h y (List.mem_cons_of_mem _ hy)
    omega
theorem tsz_shape : ∀ (n : Nat) (t : Tm), (shape n t = true → tsz n t = manyD n t) ∧ (shape n t = false → 13 ≤ tsz n t)
  | 0, t => ⟨fun h => (by simp [shape] at h), fun _ => Nat.le_refl _⟩
  | n + 1, t => by
    simp only [shape, tsz, manyD]
    cases h1 : nameOk t.val
    · simp
    · by_cases h2 : t.kids.length ≤ 2
      · have h2' : ¬ t.kids.length > 2 := by omega
        rw [decide_eq_true h2, decide_eq_false h2']
        simp only [Bool.not_true, Bool.or_self, Bool.false_eq_true, if_false, Bool.and_self, Bool.true_and]
        refine ⟨fun h => ?_, fun h => ?_⟩
        · rw [sumN_congr fun x hx => (tsz_shape n x).1 (List.all_eq_true.1 h x hx)]
        · obtain ⟨x, hx, h3⟩ := List.all_eq_false.1 h
          have h4 := (tsz_shape n x).2 (by simpa using h3)
          have h5 := sumN_mem (tsz n) hx
          omega
      · have h2' : t.kids.length > 2 := by omega
        rw [decide_eq_false h2, decide_eq_true h2']
        simp
theorem isTerm_right (t : Tm) : isTerm t = right t := by
  obtain ⟨h1, h2⟩ := tsz_shape 4 t
  unfold isTerm right
  cases h : shape 4 t
  · rw [Bool.false_and]; exact decide_eq_false (by have := h2 h; omega)
  · rw [h1 h, Bool.true_and]
theorem tsz_le : ∀ (n : Nat) (t : Tm), tsz n t + 1 ≤ 14 * 2 ^ n
  | 0, t => by simp [tsz]
  | n + 1, t => by
    have h0 : 1 ≤ 2 ^ n := Nat.one_le_two_pow
    simp only [tsz, Nat.pow_succ]
    split
    · omega
    · rename_i h
      have h2 : t.kids.length ≤ 2 := by
        simp only [Bool.or_eq_true, decide_eq_true_eq] at h; omega
      have h3 : sumN (tsz n) t.kids ≤ t.kids.length * (14 * 2 ^ n - 1) := sumN_le fun x _ => by have := tsz_le n x; omega
      have h4 : t.kids.length * (14 * 2 ^ n - 1) ≤ 2 * (14 * 2 ^ n - 1) := Nat.mul_le_mul_right _ h2
      omega
theorem manyD_le : ∀ (n : Nat) (t : Tm), manyD n t ≤ 1 + costT t
  | 0, t => by simp [manyD]
  | n + 1, t => by
    simp only [manyD]
    rw [costT_eq]
    have : ∀ l : List Tm, sumN (manyD n) l ≤ l.length + costTs l := by
      intro l
      induction l with
      | nil => simp [sumN]
      | cons x r ih => simp only [sumN, costTs, List.length_cons]; have := manyD_le n x; omega
    have := this t.kids
    omega
theorem sigL_mem : ∀ {s : Sig} {p : Option ByteArray}, sigL p s = true → ∀ y ∈ s, symOk y = true
  | x :: r, p, h, y, hy => by
    simp only [sigL, Bool.and_eq_true] at h
    cases List.mem_cons.1 hy with
    | inl e => subst e; exact h.1.1
    | inr e => exact sigL_mem h.2 y e
theorem sigOk_mem {s : Sig} (h : sigOk s = true) {y : Sym} (hy : y ∈ s) : symOk y = true := by
  simp only [sigOk, Bool.and_eq_true] at h
  exact sigL_mem h.1 y hy
theorem find_mem {s : Sig} {nm : ByteArray} (h : (find s nm).isSome = true) : symOf s nm ∈ s := by
  unfold symOf
  cases h2 : find s nm with
  | none => rw [h2] at h; cases h
  | some y => exact List.mem_of_find?_eq_some h2
theorem isSort_iff {n : Int} : isSort n = true ↔ n = 0 ∨ n = 1 := by simp [isSort]
theorem sortT_eq (s : Sig) (a : ByteArray) (b : List Tm) : sortT s (.mk a b) = if (find s a).isSome = true ∧ (symOf s a).2.1.length = b.length ∧ sortL s b (symOf s a).2.1 = true then some (symOf s a).2.2 else none := by
  simp only [sortT]
  unfold symOf
  cases h : find s a with
  | none => simp
  | some y => simp only [Option.getD_some, Option.isSome_some, true_and]; split <;> split <;> simp_all
theorem sortT_sort {s : Sig} (hs : sigOk s = true) {t : Tm} {n : Int} (h : sortT s t = some n) : n = 0 ∨ n = 1 := by
  cases t with
  | mk a b =>
    rw [sortT_eq] at h
    split at h
    · rename_i h1
      cases h
      have := sigOk_mem hs (find_mem h1.1)
      simp only [symOk, Bool.and_eq_true] at this
      exact isSort_iff.1 this.1.2
    · cases h
theorem sortL_cons (s : Sig) (t : Tm) (ts : List Tm) (n : Int) (ns : List Int) : sortL s (t :: ts) (n :: ns) = (decide (sortT s t = some n) && sortL s ts ns) := by
  conv => lhs; unfold sortL
  rfl
theorem find_step {s : Sig} {nm : ByteArray} {k : Nat} (hk : k < s.length) (he : find s nm = find (s.drop k) nm) : ((s.getD k dY).1 = nm → find s nm = some (s.getD k dY)) ∧ ((s.getD k dY).1 ≠ nm → find s nm = find (s.drop (k + 1)) nm) := by
  rw [drop_get dY hk] at he
  unfold find at he ⊢
  rw [List.find?_cons] at he
  refine ⟨fun h => ?_, fun h => ?_⟩
  · rw [he]; simp only [h, decide_true]
  · rw [he]; simp only [h, decide_false]
end Pl
namespace Cg
open Go Go.Proofs Pl

theorem tm_size {a : ByteArray} {b : List Tm} (h : SmT (.mk a b)) : a.size ≤ 1048576 ∧ b.length ≤ 1048576 := by
  have h1 : costT (.mk a b) ≤ 1048576 := h
  rw [costT_eq] at h1
  simp only [Tree.val, Tree.kids] at h1
  omega

theorem k_l4Shape (n : Nat) : SoundC Try.prog (K_l4Shape n).1 (K_l4Shape n).2 := by
  induction n with
  | zero => exact sound_of hm (CtxOK.nil.and k_sNameOk) (fun _ => []) (by kernel_rfl) fun (x : TP) hl => (by
      rw [← vc_l4Shape0 x]
      simp [-List.getD_eq_getElem?_getD, -List.mem_cons, -Bool.forall_bool, -Bool.exists_bool, and_assoc, peta, tl_inj, ex_1, ex_2, ex_3, ex_4, ex_5, ex_6, ex_7, ex_8, ex_9, ey_2, ey_3, ey_4, ey_5, ey_6, ey_7, ey_8, ey_9]
      rfl)
  | succ n ih => exact sound_of hm ((CtxOK.nil.and (K := K_l4Shape n) ih).and k_sNameOk) (fun x => A_l4Shape n x.1 x.2) (by kernel_rfl) fun (x : TP) hl => (by
      have h1 : SmT (.mk x.1 x.2) := hl.1
      have hn : n + 1 ≤ 10 := hl.2
      clear hl
      rw [← vc_l4Shape n x]
      obtain ⟨a, b⟩ := x
      dsimp only at *
      simp [-List.getD_eq_getElem?_getD, -List.mem_cons, -Bool.forall_bool, -Bool.exists_bool, and_assoc, peta, tl_inj, ex_1, ex_2, ex_3, ex_4, ex_5, ex_6, ex_7, ex_8, ex_9, ey_2, ey_3, ey_4, ey_5, ey_6, ey_7, ey_8, ey_9]
      obtain ⟨t1, t2⟩ := tm_size h1
      have k1 := (SmT.kids h1).len
      have e : Pl.shape (n + 1) (Tree.mk a b) = (nameOk a && decide (b.length ≤ 2) && b.all (Pl.shape n)) := rfl
      refine ⟨t1, fun h => by rw [e, h]; rfl, fun h => ⟨fun h2 => by rw [e, decide_eq_false (by omega)]; simp, fun h2 => ⟨⟨0, by simp, by rw [e, h, decide_eq_true (by omega)]; simp, rfl⟩, fun k hk he => ⟨fun hlt => ?_, fun hge => by rw [he, drop_end (by omega)]; rfl⟩⟩⟩⟩
      rw [drop_get dT hlt, List.all_cons] at he
      exact ⟨hlt, wrap_small (by omega) (by omega), (SmT.kids h1).mem (getD_mem dT hlt), by omega, fun h3 => by rw [he, h3]; rfl, fun h3 => ⟨k + 1, hlt, by rw [he, h3, Bool.true_and], by omega, wrap_small (by omega) (by omega)⟩⟩)

theorem k_l4Many (n : Nat) : SoundC Try.prog (K_l4Many n).1 (K_l4Many n).2 := by
  induction n with
  | zero => exact sound_of hm CtxOK.nil (fun x => A_l4Many0 x.1 x.2) (by kernel_rfl) fun (x : TP) hl => (by
      clear hl
      rw [← vc_l4Many0 x]
      obtain ⟨a, b⟩ := x
      dsimp only at *
      simp [-List.getD_eq_getElem?_getD, -List.mem_cons, -Bool.forall_bool, -Bool.exists_bool, and_assoc, peta, tl_inj, ex_1, ex_2, ex_3, ex_4, ex_5, ex_6, ex_7, ex_8, ex_9, ey_2, ey_3, ey_4, ey_5, ey_6, ey_7, ey_8, ey_9]
      simp [manyD])
  | succ n ih => exact sound_of hm (CtxOK.nil.and (K := K_l4Many n) ih) (fun x => A_l4Many n x.1 x.2) (by kernel_rfl) fun (x : TP) hl => (by
      have h1 : SmT (.mk x.1 x.2) := hl.1
      have hn : n + 1 ≤ 10 := hl.2
      clear hl
      rw [← vc_l4Many n x]
      obtain ⟨a, b⟩ := x
      dsimp only at *
      simp [-List.getD_eq_getElem?_getD, -List.mem_cons, -Bool.forall_bool, -Bool.exists_bool, and_assoc, peta, tl_inj, ex_1, ex_2, ex_3, ex_4, ex_5, ex_6, ex_7, ex_8, ex_9, ey_2, ey_3, ey_4, ey_5, ey_6, ey_7, ey_8, ey_9]
      have k1 := (SmT.kids h1).len
      have bnd : ∀ k, 1 + sumN (manyD n) (b.take k) ≤ 1 + costT (.mk a b) := fun k => by
        have := sumN_take_le (manyD n) b k
        have h2 := manyD_le (n + 1) (.mk a b)
        simp only [manyD, Tree.kids] at h2
        omega
      have h1' : costT (.mk a b) ≤ 1048576 := h1
      refine ⟨⟨0, by simp, by simp [sumN], rfl⟩, fun k hk => ⟨fun hlt => ?_, fun hge => ?_⟩⟩
      · have ht := sumN_take (manyD n) dT hlt
        have := bnd (k + 1)
        exact ⟨hlt, wrap_small (by omega) (by omega), (SmT.kids h1).mem (getD_mem dT hlt), by omega, k + 1, hlt, by omega, by rw [wrap_small (by omega) (by omega), ht]; omega, wrap_small (by omega) (by omega)⟩
      · rw [List.take_of_length_le hge]; simp [manyD])

theorem k_l4Right : SoundC Try.prog K_l4Right.1 K_l4Right.2 := sound_of hm ((CtxOK.nil.and (K := K_l4Many 4) (k_l4Many 4)).and (K := K_l4Shape 4) (k_l4Shape 4)) (fun _ => []) (by kernel_rfl) fun (a, b) hl => cast (vc_l4Right a b) (by
  replace hl : SmT (.mk a b) := hl
  simp [-List.getD_eq_getElem?_getD, -List.mem_cons, -Bool.forall_bool, -Bool.exists_bool, and_assoc, peta, tl_inj, ex_1, ex_2, ex_3, ex_4, ex_5, ex_6, ex_7, ex_8, ex_9, ey_2, ey_3, ey_4, ey_5, ey_6, ey_7, ey_8, ey_9]
  exact ⟨hl, fun h => ⟨hl, by unfold right; rw [h, Bool.true_and]; congr 1; simp only [eq_iff_iff]; omega⟩, fun h => by unfold right; rw [h]; rfl⟩)
theorem k_l4Find : SoundC Try.prog K_l4Find.1 K_l4Find.2 := sound_of hm CtxOK.nil (fun (s, nm) => A_l4Find s nm) (by kernel_rfl) fun (s, nm) hl => cast (vc_l4Find s nm) (by
  replace hl : SmG s := hl
  simp [-List.getD_eq_getElem?_getD, -List.mem_cons, -Bool.forall_bool, -Bool.exists_bool, and_assoc, peta, tl_inj, ex_1, ex_2, ex_3, ex_4, ex_5, ex_6, ex_7, ex_8, ex_9, ey_2, ey_3, ey_4, ey_5, ey_6, ey_7, ey_8, ey_9]
  have hlen := hl.len
  refine ⟨⟨0, by simp, by simp, rfl, rfl⟩, fun k hk he => ⟨fun hlt => ⟨hlt, fun h => ?_, fun h => ⟨k + 1, hlt, (find_step hlt he).2 h, by omega, wrap_small (by omega) (by omega)⟩⟩, fun hge => ?_⟩⟩
  · have := (find_step hlt he).1 h
    unfold symOf
    rw [this]
    exact ⟨hlt, rfl, rfl, rfl, rfl⟩
  · rw [drop_end (by omega)] at he
    unfold symOf
    rw [he]
    exact ⟨rfl, rfl, rfl, rfl⟩)
theorem k_symbol : SoundC Try.prog K_symbol.1 K_symbol.2 := sound_of hm CtxOK.nil (fun (s, nm) => A_symbol s nm) (by kernel_rfl) fun (s, nm) hl => cast (vc_symbol s nm) (by
  replace hl : SmG s := hl
  simp [-List.getD_eq_getElem?_getD, -List.mem_cons, -Bool.forall_bool, -Bool.exists_bool, and_assoc, peta, tl_inj, ex_1, ex_2, ex_3, ex_4, ex_5, ex_6, ex_7, ex_8, ex_9, ey_2, ey_3, ey_4, ey_5, ey_6, ey_7, ey_8, ey_9]
  have hlen := hl.len
  refine ⟨⟨0, by simp, by simp, rfl, rfl⟩, fun k hk he => ⟨fun hlt => ⟨hlt, fun h => ?_, fun h => ⟨k + 1, hlt, (find_step hlt he).2 h, by omega, wrap_small (by omega) (by omega)⟩⟩, fun hge => ?_⟩⟩
  · have := (find_step hlt he).1 h
    unfold symOf
    rw [this]
    exact ⟨rfl, rfl, rfl, rfl⟩
  · rw [drop_end (by omega)] at he
    unfold symOf
    rw [he]
    exact ⟨rfl, rfl, rfl, rfl⟩)
theorem k_l4Of (n : Nat) : SoundC Try.prog (K_l4Of n).1 (K_l4Of n).2 := by
  induction n with
  | zero => exact sound_of hm CtxOK.nil (fun _ => []) (by kernel_rfl) fun x h => absurd h.2 (Nat.not_lt_zero _)
  | succ n ih => exact sound_of hm ((CtxOK.nil.and (K := K_l4Of n) ih).and k_l4Find) (fun x => A_l4Of x.1 x.2.1 x.2.2) (by kernel_rfl) fun (x : Sig × TP) hl => (by
      have hs : sigOk x.1 = true := hl.1.1
      have hg : SmG x.1 := hl.1.2.1
      have ht : SmT (.mk x.2.1 x.2.2) := hl.1.2.2
      have hn : manyL x.2.2 < n + 1 := hl.2
      clear hl
      rw [← vc_l4Of n x]
      obtain ⟨s, a, b⟩ := x
      dsimp only at *
      simp [-List.getD_eq_getElem?_getD, -List.mem_cons, -Bool.forall_bool, -Bool.exists_bool, and_assoc, peta, tl_inj, ex_1, ex_2, ex_3, ex_4, ex_5, ex_6, ex_7, ex_8, ex_9, ey_2, ey_3, ey_4, ey_5, ey_6, ey_7, ey_8, ey_9]
      have k1 := (SmT.kids ht).len
      have e := sortT_eq s a b
      refine ⟨hg, fun h => by rw [e, h]; rfl, fun h => ⟨fun h2 => by rw [e, if_neg (fun h3 => h2 (by omega))]; rfl, fun h2 => ⟨⟨0, by simp, by omega, h, by simp, rfl⟩, fun k hk hb hf he => ⟨fun hlt => ?_, fun hge => ?_⟩⟩⟩⟩
      · have hy := sigOk_mem hs (find_mem hf)
        simp only [symOk, Bool.and_eq_true] at hy
        have hz := isSort_iff.1 (List.all_eq_true.1 hy.2 _ (getD_mem 0 (by omega : k < (symOf s a).2.1.length)))
        rw [drop_get dT hlt, drop_get 0 (by omega : k < (symOf s a).2.1.length)] at he
        rw [sortL_cons] at he
        have key : (sortT s (b.getD k dT)).getD (-1) = (symOf s a).2.1.getD k 0 ↔ sortT s (b.getD k dT) = some ((symOf s a).2.1.getD k 0) := by
          cases sortT s (b.getD k dT) with
          | none => exact ⟨fun h => by simp only [Option.getD_none] at h; omega, fun h => by cases h⟩
          | some m => simp
        refine ⟨hlt, hs, hg, (SmT.kids ht).mem (getD_mem dT hlt), by have := manyL_kids (getD_mem dT hlt); omega, by omega, fun h3 => ?_, fun h3 => ⟨k + 1, hlt, hb, hf, ?_, by omega, wrap_small (by omega) (by omega)⟩⟩
        · rw [decide_eq_false (fun h4 => h3 (key.2 h4)), Bool.false_and] at he
          rw [e, if_neg (fun h5 => by rw [he] at h5; cases h5.2.2)]; rfl
        · rw [he, decide_eq_true (key.1 h3), Bool.true_and]
      · rw [drop_end (by omega)] at he
        simp only [sortL] at he
        rw [e, if_pos ⟨hf, hb, he⟩]; rfl)
theorem k_sortOf (n : Nat) : SoundC Try.prog (K_sortOf n).1 (K_sortOf n).2 := by
  induction n with
  | zero => exact sound_of hm CtxOK.nil (fun _ => []) (by kernel_rfl) fun x h => absurd h.2 (Nat.not_lt_zero _)
  | succ n ih => exact sound_of hm ((CtxOK.nil.and (K := K_sortOf n) ih).and k_symbol) (fun x => A_sortOf x.1 x.2.1 x.2.2) (by kernel_rfl) fun (x : Sig × TP) hl => (by
      have hs : sigOk x.1 = true := hl.1.1
      have hg : SmG x.1 := hl.1.2.1
      have ht : SmT (.mk x.2.1 x.2.2) := hl.1.2.2
      have hn : manyL x.2.2 < n + 1 := hl.2
      clear hl
      rw [← vc_sortOf n x]
      obtain ⟨s, a, b⟩ := x
      dsimp only at *
      simp [-List.getD_eq_getElem?_getD, -List.mem_cons, -Bool.forall_bool, -Bool.exists_bool, and_assoc, peta, tl_inj, ex_1, ex_2, ex_3, ex_4, ex_5, ex_6, ex_7, ex_8, ex_9, ey_2, ey_3, ey_4, ey_5, ey_6, ey_7, ey_8, ey_9]
      have k1 := (SmT.kids ht).len
      have e := sortT_eq s a b
      have no : ¬ ((find s a).isSome = true ∧ (symOf s a).2.1.length = b.length ∧ sortL s b (symOf s a).2.1 = true) → 0 = (sortT s (Tree.mk a b)).getD 0 ∧ sortT s (Tree.mk a b) = none := fun h => by
        rw [e, if_neg h]; exact ⟨rfl, rfl⟩
      refine ⟨hg, fun h => no (fun h3 => by rw [h] at h3; cases h3.1), fun h => ⟨fun h2 => no (fun h3 => h2 (by omega)), fun h2 => ⟨⟨0, by simp, by omega, h, by simp, rfl⟩, fun k hk hb hf he => ⟨fun hlt => ?_, fun hge => ?_⟩⟩⟩⟩
      · rw [drop_get dT hlt, drop_get 0 (by omega : k < (symOf s a).2.1.length), sortL_cons] at he
        have bad : sortT s (b.getD k dT) ≠ some ((symOf s a).2.1.getD k 0) → 0 = (sortT s (Tree.mk a b)).getD 0 ∧ sortT s (Tree.mk a b) = none := fun h3 => no (fun h4 => by
          rw [decide_eq_false h3, Bool.false_and] at he
          rw [he] at h4; cases h4.2.2)
        refine ⟨hlt, hs, hg, (SmT.kids ht).mem (getD_mem dT hlt), by have := manyL_kids (getD_mem dT hlt); omega, fun h3 => bad (by rw [h3]; simp), fun h3 => ⟨by omega, fun h4 => bad (fun h5 => h4 (by rw [h5]; rfl)), fun h4 => ⟨k + 1, hlt, hb, hf, ?_, by omega, wrap_small (by omega) (by omega)⟩⟩⟩
        have h6 : sortT s (b.getD k dT) = some ((symOf s a).2.1.getD k 0) := by
          cases h7 : sortT s (b.getD k dT) with
          | none => rw [h7] at h3; cases h3
          | some m => rw [h7] at h4; simp only [Option.getD_some] at h4; rw [h4]
        rw [he, decide_eq_true h6, Bool.true_and]
      · rw [drop_end (by omega)] at he
        simp only [sortL] at he
        rw [e, if_pos ⟨hf, hb, he⟩]; exact ⟨rfl, rfl⟩)
theorem k_lOf : SoundC Try.prog K_lOf.1 K_lOf.2 := SoundC.fam (fun x => manyL x.2.2) fun n => k_l4Of n
theorem k_sOf : SoundC Try.prog K_sOf.1 K_sOf.2 := SoundC.fam (fun x => manyL x.2.2) fun n => k_sortOf n
theorem k_termSize (n : Nat) : SoundC Try.prog (K_termSize n).1 (K_termSize n).2 := by
  induction n with
  | zero => exact sound_of hm (CtxOK.nil.and k_iNameOk) (fun _ => []) (by kernel_rfl) fun (x : TP) hl => (by
      have h1 : SmT (.mk x.1 x.2) := hl.1
      clear hl
      rw [← vc_termSize0 x]
      obtain ⟨a, b⟩ := x
      dsimp only at *
      simp [-List.getD_eq_getElem?_getD, -List.mem_cons, -Bool.forall_bool, -Bool.exists_bool, and_assoc, peta, tl_inj, ex_1, ex_2, ex_3, ex_4, ex_5, ex_6, ex_7, ex_8, ex_9, ey_2, ey_3, ey_4, ey_5, ey_6, ey_7, ey_8, ey_9]
      exact ⟨(tm_size h1).1, fun _ => rfl, fun _ => ⟨fun _ => rfl, fun _ => rfl⟩⟩)
  | succ n ih => exact sound_of hm ((CtxOK.nil.and (K := K_termSize n) ih).and k_iNameOk) (fun x => A_termSize n x.1 x.2) (by kernel_rfl) fun (x : TP) hl => (by
      have h1 : SmT (.mk x.1 x.2) := hl.1
      have hn : n + 1 ≤ 4 := hl.2
      clear hl
      rw [← vc_termSize n x]
      obtain ⟨a, b⟩ := x
      dsimp only at *
      simp [-List.getD_eq_getElem?_getD, -List.mem_cons, -Bool.forall_bool, -Bool.exists_bool, and_assoc, peta, tl_inj, ex_1, ex_2, ex_3, ex_4, ex_5, ex_6, ex_7, ex_8, ex_9, ey_2, ey_3, ey_4, ey_5, ey_6, ey_7, ey_8, ey_9]
      obtain ⟨t1, t2⟩ := tm_size h1
      have et : tsz (n + 1) (.mk a b) = if (!nameOk a || decide (b.length > 2)) = true then 13 else 1 + sumN (tsz n) b := rfl
      have bad : (!nameOk a || decide (b.length > 2)) = true → (13 : Int) = tsz (n + 1) (.mk a b) := fun h => by
        rw [et, if_pos h]; rfl
      have good : nameOk a = true → b.length ≤ 2 → tsz (n + 1) (.mk a b) = 1 + sumN (tsz n) b := fun h h2 => by
        rw [et, if_neg]; simp [h]; omega
      refine ⟨t1, fun h => bad (by rw [h]; rfl), fun h => ⟨fun h2 => bad (by rw [decide_eq_true (by omega)]; simp), fun h2 => ⟨fun h3 => by omega, fun _ => ⟨⟨0, by simp, by omega, by simp [sumN], rfl⟩, fun k hk h2' => ⟨fun hlt => ?_, fun hge => ?_⟩⟩⟩⟩⟩
      · have ht := sumN_take (tsz n) dT hlt
        have hle := sumN_take_le (tsz n) b (k + 1)
        have h4 : sumN (tsz n) b ≤ b.length * 223 := sumN_le fun x _ => by
          have := tsz_le n x
          have : 2 ^ n ≤ 2 ^ 4 := Nat.pow_le_pow_right (by omega) (by omega)
          omega
        exact ⟨hlt, by rw [wrap_small (by omega) (by omega)]; omega, (SmT.kids h1).mem (getD_mem dT hlt), by omega, k + 1, hlt, h2', by omega, by rw [wrap_small (by omega) (by omega), ht]; omega, wrap_small (by omega) (by omega)⟩
      · rw [List.take_of_length_le hge, good h (by omega)]; omega)
theorem k_isTerm : SoundC Try.prog K_isTerm.1 K_isTerm.2 := sound_of hm (CtxOK.nil.and (K := K_termSize 4) (k_termSize 4)) (fun _ => []) (by kernel_rfl) fun (a, b) hl => cast (vc_isTerm a b) (by
  replace hl : SmT (.mk a b) := hl
  simp [-List.getD_eq_getElem?_getD, -List.mem_cons, -Bool.forall_bool, -Bool.exists_bool, and_assoc, peta, tl_inj, ex_1, ex_2, ex_3, ex_4, ex_5, ex_6, ex_7, ex_8, ex_9, ey_2, ey_3, ey_4, ey_5, ey_6, ey_7, ey_8, ey_9]
  refine ⟨hl, ?_⟩
  rw [← isTerm_right]
  unfold isTerm
  congr 1; simp only [eq_iff_iff]; omega)
theorem ts_no {s : Sig} {t : Tm} (h : (sigOk s && right t) = false) : 0 = (termSort s t).1 ∧ (termSort s t).2 = false := by
  unfold termSort; rw [h]; exact ⟨rfl, rfl⟩
theorem ts_yes {s : Sig} {t : Tm} (h1 : sigOk s = true) (h2 : right t = true) : termSort s t = ((sortT s t).getD 0, (sortT s t).isSome) := by
  unfold termSort; rw [h1, h2]; rfl
theorem k_iTermSort : SoundC Try.prog K_iTermSort.1 K_iTermSort.2 := sound_of hm (((CtxOK.nil.and k_sOf).and k_isTerm).and k_iSigOk) (fun _ => []) (by kernel_rfl) fun (s, a, b) hl => cast (vc_iTermSort s a b) (by
  obtain ⟨hg, ht⟩ : SmG s ∧ SmT (.mk a b) := hl
  simp [-List.getD_eq_getElem?_getD, -List.mem_cons, -Bool.forall_bool, -Bool.exists_bool, and_assoc, peta, tl_inj, ex_1, ex_2, ex_3, ex_4, ex_5, ex_6, ex_7, ex_8, ex_9, ey_2, ey_3, ey_4, ey_5, ey_6, ey_7, ey_8, ey_9]
  exact ⟨hg, fun h => ts_no (by rw [h]; rfl), fun h => ⟨ht, fun h2 => ts_no (by rw [h, h2]; rfl), fun h2 => ⟨h, hg, ht, by rw [ts_yes h h2], by rw [ts_yes h h2]⟩⟩⟩)
end Cg

/-
  The codes' contracts: models: sizes, copies, equality. No condition.
-/
set_option linter.unusedVariables false
set_option linter.unusedSimpArgs false
set_option maxRecDepth 100000
set_option maxHeartbeats 1000000
namespace Cg
open Go Go.Proofs Pl
theorem SmM.mem {m : Mdl} (h : SmM m) {x : Rw} (hx : x ∈ m) : x.1.size ≤ 1048576 ∧ x.2.1.length ≤ 1048576 := by
  have h1 : m.length + sumN costR m ≤ 1048576 := h
  have h2 := sumN_mem costR hx
  have h3 : costR x = x.1.size + x.2.1.length := rfl
  omega
theorem SmM.len {m : Mdl} (h : SmM m) : m.length ≤ 1048576 := by
  have h1 : m.length + sumN costR m ≤ 1048576 := h
  omega

end Cg

/-
  The codes' contracts: valid models. No condition.
-/
set_option linter.unusedVariables false
set_option linter.unusedSimpArgs false
set_option maxRecDepth 100000
set_option maxHeartbeats 1000000
namespace Pl
open Go Cg
end Pl
namespace Cg
open Go Go.Proofs Pl

end Cg

/-
  What is left to show of each function's code, printed by a program: Draw. No condition.
-/
set_option maxRecDepth 100000
set_option linter.unusedVariables false
namespace Cg
open Go Go.Proofs
theorem vc_l16Open (b : List Int) : (condP (Decidable.decide ((↑b.length : Int) > (2000 : Int)))
 (((0 : Int) ≤ (2000 : Int) ∧ (2000 : Int) ≤ (↑b.length : Int)) ∧
 Exists fun (y : List Int) => Rd (0 : Int) y (0 : Int) ∧ ((0 : Nat) = (0 : Nat) ∧ True) ∧ (Is (AV.sl (2000 : Nat) (1 : Nat) (cU b)) (byts y) ∧ (0 : Int) = (0 : Int) ∧ True) ∧ True)
 (Exists fun (y : List Int) => Rd (0 : Int) y (0 : Int) ∧ ((0 : Nat) = (0 : Nat) ∧ True) ∧ (Is (byts b) (byts y) ∧ (0 : Int) = (0 : Int) ∧ True) ∧ True)) = Goal Try.prog [] ([]) K_l16Open.1 K_l16Open.2 (b) := by kernel_rfl

theorem vc_pick (b : List Int) (p n : Int) : (condP (Decidable.decide (n < (1 : Int)))
 (Exists fun (y : Int) =>
 (((1 : Int) ≤ n → (0 : Int) ≤ y ∧ y < n) ∧ (n < (1 : Int) → y = (0 : Int))) ∧
 ((0 : Int) = y ∧ True) ∧ (Is (byts b) (byts b) ∧ IntKind.i64.wrap (p + (1 : Int)) = p + (1 : Int) ∧ True) ∧ True)
 (condP ((↑b.length : Int) == (0 : Int))
 (Exists fun (y : Int) =>
 (((1 : Int) ≤ n → (0 : Int) ≤ y ∧ y < n) ∧ (n < (1 : Int) → y = (0 : Int))) ∧
 ((0 : Int) = y ∧ True) ∧ (Is (byts b) (byts b) ∧ IntKind.i64.wrap (p + (1 : Int)) = p + (1 : Int) ∧ True) ∧ True)
 (condP (Decidable.decide (IntKind.i64.wrap (IntKind.i64.wrap (p + (1 : Int)) - (1 : Int)) < (↑b.length : Int)))
 (((0 : Int) ≤ IntKind.i64.wrap (IntKind.i64.wrap (p + (1 : Int)) - (1 : Int)) ∧ IntKind.i64.wrap (IntKind.i64.wrap (p + (1 : Int)) - (1 : Int)) < (↑b.length : Int)) ∧
 (IntKind.i64.wrap (IntKind.i64.wrap (p + (1 : Int)) - (1 : Int))).toNat < b.length ∧
 n ≠ (0 : Int) ∧
 Exists fun (y : Int) =>
 (((1 : Int) ≤ n → (0 : Int) ≤ y ∧ y < n) ∧ (n < (1 : Int) → y = (0 : Int))) ∧
 ((IntKind.i64.wrap (b.getD (IntKind.i64.wrap (IntKind.i64.wrap (p + (1 : Int)) - (1 : Int))).toNat (0 : Int))).tmod n = y ∧ True) ∧
 (Is (byts b) (byts b) ∧ IntKind.i64.wrap (p + (1 : Int)) = p + (1 : Int) ∧ True) ∧ True)
 ((↑b.length : Int) ≠ (0 : Int) ∧
 ((0 : Int) ≤ (IntKind.i64.wrap (IntKind.i64.wrap (p + (1 : Int)) - (1 : Int))).tmod (↑b.length : Int) ∧
 (IntKind.i64.wrap (IntKind.i64.wrap (p + (1 : Int)) - (1 : Int))).tmod (↑b.length : Int) < (↑b.length : Int)) ∧
 ((IntKind.i64.wrap (IntKind.i64.wrap (p + (1 : Int)) - (1 : Int))).tmod (↑b.length : Int)).toNat < b.length ∧
 (↑b.length : Int) ≠ (0 : Int) ∧
 ((0 : Int) ≤ (IntKind.i64.wrap (IntKind.i64.wrap (IntKind.i64.wrap (IntKind.i64.wrap (p + (1 : Int)) - (1 : Int)) * (7 : Int)) + (3 : Int))).tmod (↑b.length : Int) ∧
 (IntKind.i64.wrap (IntKind.i64.wrap (IntKind.i64.wrap (IntKind.i64.wrap (p + (1 : Int)) - (1 : Int)) * (7 : Int)) + (3 : Int))).tmod (↑b.length : Int) <
 (↑b.length : Int)) ∧
 ((IntKind.i64.wrap (IntKind.i64.wrap (IntKind.i64.wrap (IntKind.i64.wrap (p + (1 : Int)) - (1 : Int)) * (7 : Int)) + (3 : Int))).tmod (↑b.length : Int)).toNat < b.length ∧
 (↑b.length : Int) ≠ (0 : Int) ∧
 (64 : Int) ≠ (0 : Int) ∧
 n ≠ (0 : Int) ∧
 Exists fun (y : Int) =>
 (((1 : Int) ≤ n → (0 : Int) ≤ y ∧ y < n) ∧ (n < (1 : Int) → y = (0 : Int))) ∧
 ((IntKind.i64.wrap
 (↑(BitVec.ofInt (64 : Nat)
 (IntKind.i64.wrap
 (IntKind.i64.wrap
 (IntKind.i64.wrap
 (IntKind.i64.wrap
 (IntKind.i64.wrap
 (b.getD ((IntKind.i64.wrap (IntKind.i64.wrap (p + (1 : Int)) - (1 : Int))).tmod (↑b.length : Int)).toNat (0 : Int)) *
 (131 : Int)) +
 IntKind.i64.wrap
 (IntKind.i64.wrap
 (b.getD
 ((IntKind.i64.wrap
 (IntKind.i64.wrap (IntKind.i64.wrap (IntKind.i64.wrap (p + (1 : Int)) - (1 : Int)) * (7 : Int)) +
 (3 : Int))).tmod
 (↑b.length : Int)).toNat
 (0 : Int)) *
 (1117 : Int))) +
 IntKind.i64.wrap (IntKind.i64.wrap (IntKind.i64.wrap (p + (1 : Int)) - (1 : Int)) * (29 : Int))) +
 IntKind.i64.wrap
 (IntKind.i64.wrap ((IntKind.i64.wrap (IntKind.i64.wrap (p + (1 : Int)) - (1 : Int))).tdiv (↑b.length : Int)) * (53 : Int)))) ^^^
 BitVec.ofInt (64 : Nat)
 (IntKind.i64.wrap
 ((IntKind.i64.wrap
 (IntKind.i64.wrap
 (IntKind.i64.wrap
 (IntKind.i64.wrap
 (IntKind.i64.wrap
 (b.getD ((IntKind.i64.wrap (IntKind.i64.wrap (p + (1 : Int)) - (1 : Int))).tmod (↑b.length : Int)).toNat (0 : Int)) *
 (131 : Int)) +
 IntKind.i64.wrap
 (IntKind.i64.wrap
 (b.getD
 ((IntKind.i64.wrap
 (IntKind.i64.wrap (IntKind.i64.wrap (IntKind.i64.wrap (p + (1 : Int)) - (1 : Int)) * (7 : Int)) +
 (3 : Int))).tmod
 (↑b.length : Int)).toNat
 (0 : Int)) *
 (1117 : Int))) +
 IntKind.i64.wrap (IntKind.i64.wrap (IntKind.i64.wrap (p + (1 : Int)) - (1 : Int)) * (29 : Int))) +
 IntKind.i64.wrap
 (IntKind.i64.wrap ((IntKind.i64.wrap (IntKind.i64.wrap (p + (1 : Int)) - (1 : Int))).tdiv (↑b.length : Int)) * (53 : Int)))).tdiv
 (64 : Int)))).toNat :
 Int)).tmod
 n =
 y ∧
 True) ∧
 (Is (byts b) (byts b) ∧ IntKind.i64.wrap (p + (1 : Int)) = p + (1 : Int) ∧ True) ∧ True)))) = Goal Try.prog [] ([]) K_pick.1 K_pick.2 ((b, p, n)) := by kernel_rfl

theorem vc_num (b : List Int) (p : Int) (l : List Int) : (Exists fun (x : List Int × Int × Int) =>
 Rd (1099511627776 : Int) x.fst x.snd.fst ∧
 (((0 : Nat) = (0 : Nat) ∧ (↑l.length : Int) = x.snd.snd ∧ True) ∧ (Is (byts b) (byts x.fst) ∧ p = x.snd.fst ∧ True) ∧ True) ∧
 ∀ (y : Int),
 ((1 : Int) ≤ x.snd.snd → (0 : Int) ≤ y ∧ y < x.snd.snd) ∧ (x.snd.snd < (1 : Int) → y = (0 : Int)) →
 ((0 : Int) ≤ y ∧ y < (↑l.length : Int)) ∧
 y.toNat < l.length ∧
 Exists fun (y_1 : Int) => y_1 ∈ l ∧ (l.getD y.toNat (0 : Int) = y_1 ∧ True) ∧ (Is (byts x.fst) (byts b) ∧ x.snd.fst + (1 : Int) = p + (1 : Int) ∧ True) ∧ True) = Goal Try.prog [K_pick] ([]) K_num.1 K_num.2 ((b, p, l)) := by kernel_rfl

end Cg

/-
  What is left to show of each function's code, printed by a program: Units. No condition.
-/
set_option maxRecDepth 100000
set_option linter.unusedVariables false
namespace Cg
open Go Go.Proofs
end Cg

/-
  Unit propagation: plain laws. No condition.
-/
set_option linter.unusedVariables false
namespace Pl
open Go Cg

/-- A mark of at most sixty variables. -/
def Mk (x : Int) : Prop := x ≠ 0 ∧ -60 ≤ x ∧ x ≤ 60
theorem Mk.wneg {x : Int} (h : Mk x) : Pl.wneg x = -x := by
  obtain ⟨h1, h2, h3⟩ := h
  unfold Pl.wneg; rw [Cg.wrap_small (by omega) (by omega)]; omega
theorem absW_of {x : Int} (h : Mk x) : absW x = if x < 0 then -x else x := by
  obtain ⟨h1, h2, h3⟩ := h
  unfold absW Pl.wneg
  rw [if_neg (by omega), if_neg (by omega)]
  split
  · rw [Cg.wrap_small (by omega) (by omega)]; omega
  · rfl
theorem take_succ_getD {α : Type} (d : α) {l : List α} {i : Nat} (h : i < l.length) : l.take (i + 1) = l.take i ++ [l.getD i d] := by
  rw [List.take_succ_eq_append_getElem h]; simp [h]
end Pl

/-
  What is left to show of each function's code, printed by a program: Cnf. No condition.
-/
set_option maxRecDepth 100000
set_option linter.unusedVariables false
namespace Cg
open Go Go.Proofs
theorem vc_slEqual (l m : List Int) : (condP ((↑l.length : Int) != (↑m.length : Int)) (Bool.false = Decidable.decide (l = m))
 ((Exists fun (x : Nat) =>
 (x ≤ l.length ∧ l.length = m.length ∧ (l = m ↔ List.drop x l = List.drop x m)) ∧
 (Is (ints l) (ints l) ∧ Is (ints m) (ints m) ∧ (↑l.length : Int) = (↑l.length : Int) ∧ (0 : Int) = (↑x : Int) ∧ True) ∧ True) ∧
 ∀ (x : Nat),
 x ≤ l.length ∧ l.length = m.length ∧ (l = m ↔ List.drop x l = List.drop x m) →
 condP (Decidable.decide ((↑x : Int) < (↑l.length : Int)))
 (((0 : Int) ≤ (↑x : Int) ∧ (↑x : Int) < (↑l.length : Int)) ∧
 x < l.length ∧
 ((0 : Int) ≤ (↑x : Int) ∧ (↑x : Int) < (↑m.length : Int)) ∧
 x < m.length ∧
 condP (l.getD x (0 : Int) != m.getD x (0 : Int)) (Bool.false = Decidable.decide (l = m))
 (Exists fun (x' : Nat) =>
 (x' ≤ l.length ∧ l.length = m.length ∧ (l = m ↔ List.drop x' l = List.drop x' m)) ∧
 l.length - x' < l.length - x ∧
 (Is (ints l) (ints l) ∧ Is (ints m) (ints m) ∧ (↑l.length : Int) = (↑l.length : Int) ∧ IntKind.i64.wrap ((↑x : Int) + (1 : Int)) = (↑x' : Int) ∧ True) ∧
 True))
 (Bool.true = Decidable.decide (l = m)))) = Goal Try.prog [] (A_slEqual l m) K_slEqual.1 K_slEqual.2 ((l, m)) := by kernel_rfl

end Cg

/-
  The codes' contracts: clause sets. No condition.
-/
set_option linter.unusedVariables false
set_option linter.unusedSimpArgs false
set_option maxRecDepth 100000
namespace Cg
open Go Go.Proofs

theorem k_slEqual : SoundC Try.prog K_slEqual.1 K_slEqual.2 := sound_of hm CtxOK.nil (fun (l, m) => A_slEqual l m) (by kernel_rfl) fun (l, m) hl => cast (vc_slEqual l m) (by
  replace hl : Sz l := hl
  simp [-List.getD_eq_getElem?_getD, and_assoc]
  refine ⟨fun h e => h (by rw [e]), fun h => ⟨⟨0, by simp; omega⟩, fun k hk hlm he => ⟨fun hlt => ⟨hlt, by omega, (eq_step 0 hlt hlm he).1, fun h => ⟨k + 1, hlt, hlm, (eq_step 0 hlt hlm he).2 h, by omega, wrap_succ hlt hl⟩⟩, fun hge => ?_⟩⟩⟩
  rw [drop_end (by omega), drop_end (l := m) (by omega)] at he
  exact he.2 rfl)
end Cg

/-
  The codes' contracts: unit propagation. No condition.
-/
set_option linter.unusedVariables false
set_option linter.unusedSimpArgs false
set_option maxRecDepth 100000
namespace Cg
open Go Go.Proofs

end Cg

/-
  The codes' contracts: the reader. No condition.
-/
set_option linter.unusedVariables false
set_option linter.unusedSimpArgs false
set_option maxRecDepth 100000
namespace Cg
open Go Go.Proofs

theorem Rd.mono {m m' : Int} {b : List Int} {p : Int} (h : Rd m b p) (hm : m ≤ m') : Rd m' b p := ⟨h.1, h.2.1, h.2.2.1, Int.le_trans h.2.2.2 hm⟩
theorem Rd.add {m m' : Int} {b : List Int} {p p' : Int} (h : Rd m b p) (h1 : p ≤ p') (h2 : p' ≤ m') : Rd m' b p' := ⟨h.1, h.2.1, Int.le_trans h.2.2.1 h1, h2⟩

theorem k_l16Open : SoundC Try.prog K_l16Open.1 K_l16Open.2 := sound_of hm CtxOK.nil (fun _ => []) (by kernel_rfl) fun (b : List Int) hb => cast (vc_l16Open b) (by
  obtain ⟨h1, h2⟩ : Sz b ∧ Byt b := hb
  simp [-List.getD_eq_getElem?_getD, and_assoc]
  refine ⟨fun h => ⟨by omega, b.take 2000, ⟨by simp; omega, fun x hx => h2 x (List.mem_of_mem_take hx), Int.le_refl 0, Int.le_refl 0⟩, (byts_take (by omega)).2 rfl⟩, fun h => ⟨by omega, h2, Int.le_refl 0, Int.le_refl 0⟩⟩)

theorem xor_nonneg {E : Int} (h0 : 0 ≤ E) (h1 : E < 281474976710656) : 0 ≤ IntKind.i64.wrap ((BitVec.ofInt 64 E ^^^ BitVec.ofInt 64 (IntKind.i64.wrap (E.tdiv 64))).toNat : Int) := by
  have d1 : 0 ≤ E.tdiv 64 := Int.tdiv_nonneg h0 (by omega)
  have d2 : E.tdiv 64 ≤ E := Int.tdiv_le_self _ h0
  rw [wrap_small (x := E.tdiv 64) (by omega) (by omega)]
  have e : ∀ x : Int, 0 ≤ x → x < 281474976710656 → (BitVec.ofInt 64 x).toNat < 2 ^ 48 := fun x h h' => by
    rw [BitVec.toNat_ofInt]
    have : x % ((2 ^ 64 : Nat) : Int) = x := Int.emod_eq_of_lt h (by omega)
    rw [this]; omega
  have h : (BitVec.ofInt 64 E ^^^ BitVec.ofInt 64 (E.tdiv 64)).toNat < 2 ^ 48 := by
    rw [BitVec.toNat_xor]
    exact Nat.xor_lt_two_pow (e E h0 h1) (e _ d1 (by omega))
  rw [wrap_small (by omega) (by omega)]
  omega

set_option maxHeartbeats 2000000 in
theorem k_pick : SoundC Try.prog K_pick.1 K_pick.2 := sound_of hm CtxOK.nil (fun _ => []) (by kernel_rfl) fun (b, p, n) hb => cast (vc_pick b p n) (by
  obtain ⟨h1, h2, h3, h4⟩ : Rd 1099511627776 b p := hb
  rw [wrap_small (x := p + 1) (by omega) (by omega), show p + 1 - 1 = p by omega, wrap_small (x := p) (by omega) (by omega)]
  simp only [condP_iff, decide_eq_true_eq, decide_eq_false_iff_not, beq_iff_eq, beq_eq_false_iff_ne, ne_eq]
  refine ⟨fun h => ⟨0, ⟨fun h' => absurd h' (by omega), fun _ => rfl⟩, by simp⟩, fun h => ⟨fun h' => ⟨0, ⟨fun _ => ⟨by omega, by omega⟩, fun _ => rfl⟩, by simp⟩, fun h' => ?_⟩⟩
  have hL : (0 : Int) < b.length := by
    omega
  have byte : ∀ i, i < b.length → 0 ≤ b.getD i 0 ∧ b.getD i 0 < 256 := fun i hi => h2 _ (getD_mem 0 hi)
  have tm : ∀ x : Int, 0 ≤ x → 0 ≤ x.tmod b.length ∧ x.tmod b.length < b.length := fun x hx => ⟨Int.tmod_nonneg _ hx, Int.tmod_lt_of_pos _ hL⟩
  refine ⟨fun hlt => ?_, fun hge => ?_⟩
  · obtain ⟨b1, b2⟩ := byte p.toNat (by omega)
    refine ⟨⟨by omega, hlt⟩, by omega, by omega, _, ⟨fun _ => ⟨?_, ?_⟩, fun h'' => absurd h'' (by omega)⟩, ⟨rfl, trivial⟩, by simp⟩
    · rw [wrap_small (by omega) (by omega)]; exact Int.tmod_nonneg _ b1
    · exact Int.tmod_lt_of_pos _ (by omega)
  · have e1 : IntKind.i64.wrap (p * 7) = p * 7 := wrap_small (by omega) (by omega)
    have e2 : IntKind.i64.wrap (p * 7 + 3) = p * 7 + 3 := wrap_small (by omega) (by omega)
    simp only [e1, e2]
    obtain ⟨t1, t2⟩ := tm p h3
    obtain ⟨t3, t4⟩ := tm (p * 7 + 3) (by omega)
    obtain ⟨a1, a2⟩ := byte (p.tmod b.length).toNat (by omega)
    obtain ⟨a3, a4⟩ := byte ((p * 7 + 3).tmod b.length).toNat (by omega)
    have d1 : 0 ≤ p.tdiv b.length := Int.tdiv_nonneg h3 (by omega)
    have d2 : p.tdiv b.length ≤ p := Int.tdiv_le_self _ h3
    refine ⟨by omega, ⟨t1, t2⟩, by omega, by omega, ⟨t3, t4⟩, by omega, by omega, by omega, by omega, ?_⟩
    generalize b.getD (p.tmod b.length).toNat 0 = A at a1 a2 ⊢
    generalize b.getD ((p * 7 + 3).tmod b.length).toNat 0 = B at a3 a4 ⊢
    generalize p.tdiv b.length = D at d1 d2 ⊢
    have e3 : IntKind.i64.wrap A = A := wrap_small (by omega) (by omega)
    have e4 : IntKind.i64.wrap (A * 131) = A * 131 := wrap_small (by omega) (by omega)
    have e5 : IntKind.i64.wrap B = B := wrap_small (by omega) (by omega)
    have e6 : IntKind.i64.wrap (B * 1117) = B * 1117 := wrap_small (by omega) (by omega)
    have e7 : IntKind.i64.wrap (A * 131 + B * 1117) = A * 131 + B * 1117 := wrap_small (by omega) (by omega)
    have e8 : IntKind.i64.wrap (p * 29) = p * 29 := wrap_small (by omega) (by omega)
    have e9 : IntKind.i64.wrap (A * 131 + B * 1117 + p * 29) = A * 131 + B * 1117 + p * 29 := wrap_small (by omega) (by omega)
    have e10 : IntKind.i64.wrap D = D := wrap_small (by omega) (by omega)
    have e11 : IntKind.i64.wrap (D * 53) = D * 53 := wrap_small (by omega) (by omega)
    have e12 : IntKind.i64.wrap (A * 131 + B * 1117 + p * 29 + D * 53) = A * 131 + B * 1117 + p * 29 + D * 53 := wrap_small (by omega) (by omega)
    simp only [e3, e4, e5, e6, e7, e8, e9, e10, e11, e12]
    have hE : 0 ≤ A * 131 + B * 1117 + p * 29 + D * 53 ∧ A * 131 + B * 1117 + p * 29 + D * 53 < 281474976710656 := by omega
    generalize A * 131 + B * 1117 + p * 29 + D * 53 = E at hE
    refine ⟨_, ⟨fun _ => ⟨Int.tmod_nonneg _ (xor_nonneg hE.1 hE.2), Int.tmod_lt_of_pos _ (by omega)⟩, fun h'' => absurd h'' (by omega)⟩, ⟨rfl, trivial⟩, by simp⟩)

end Cg

/-
  Drawn clause sets: plain laws. No condition.
-/
set_option linter.unusedVariables false
set_option linter.unusedSimpArgs false
namespace Pl
open Go Cg

theorem lIs_neg {x : Int} {v : List Bool} (h0 : x ≠ 0) (h1 : x ≤ v.length) (h2 : -(v.length : Int) ≤ x) : lIs (-x) v = !lIs x v := by
  have e1 : ¬ (-x = 0 ∨ -x > (v.length : Int) ∨ -x < -(v.length : Int)) := by omega
  have e2 : ¬ (x = 0 ∨ x > (v.length : Int) ∨ x < -(v.length : Int)) := by omega
  unfold lIs
  rw [if_neg e1, if_neg e2]
  by_cases h : x < 0
  · have e3 : ¬ -x < 0 := by omega
    rw [if_neg e3, if_pos h, Bool.not_not]; congr 2; omega
  · have e3 : -x < 0 := by omega
    rw [if_pos e3, if_neg h]; congr 3; omega
theorem Mk.le_abs {x n : Int} (h : Mk x) (h1 : absW x ≤ n) : x ≤ n ∧ -n ≤ x := by
  rw [absW_of h] at h1
  split at h1 <;> omega
theorem Mk.lIs {x : Int} {v : List Bool} (h : Mk x) (h1 : absW x ≤ v.length) : Pl.lIs (Pl.wneg x) v = !Pl.lIs x v := by
  obtain ⟨h2, h3⟩ := h.le_abs h1
  rw [h.wneg]
  exact lIs_neg h.1 h2 h3

end Pl

/-
  The codes' contracts: drawn clause sets. No condition.
-/
set_option linter.unusedVariables false
set_option linter.unusedSimpArgs false
set_option maxRecDepth 100000
namespace Cg
open Go Go.Proofs

theorem k_num : SoundC Try.prog K_num.1 K_num.2 := sound_of hm (CtxOK.nil.and k_pick) (fun _ => []) (by kernel_rfl) fun (b, p, l) hb => cast (vc_num b p l) (by
  obtain ⟨h1, h2, h3⟩ : Rd 1099511627776 b p ∧ l ≠ [] ∧ Sz l := hb
  simp [-List.getD_eq_getElem?_getD, and_assoc]
  have hl : 0 < l.length := List.length_pos_iff.2 h2
  exact ⟨b, p, h1, rfl, rfl, fun y h4 h5 => by
    obtain ⟨h6, h7⟩ := h4 (by omega)
    exact ⟨h6, h7, by omega, _, getD_mem 0 (by omega), rfl, rfl, rfl⟩⟩)

end Cg

/-
  The codes' contracts: drawn clause sets, the rest. No condition.
-/
set_option linter.unusedVariables false
set_option linter.unusedSimpArgs false
set_option maxRecDepth 100000
namespace Cg
open Go Go.Proofs


theorem Rd.to {m m' : Int} {b : List Int} {p p' : Int} (h : Rd m b p) (h1 : 0 ≤ p') (h2 : p' ≤ m') : Rd m' b p' := ⟨h.1, h.2.1, h1, h2⟩
theorem Rds.two {v w : List Int} {a b : AV} (h1 : Is a (ints v)) (h2 : Is b (ints w)) : Rds 1 eII [] 2 (rowsCell [[a], [b]]) [v, w] := ⟨rfl, fun i hi j hj => by
  match i, j, hi, hj with
  | 0, 0, _, _ => exact h1
  | 1, 0, _, _ => exact h2⟩
theorem Rds.one {v : List Int} {a : AV} (h1 : Is a (ints v)) : Rds 1 eII [] 1 (rowsCell [[a]]) [v] := ⟨rfl, fun i hi j hj => by
  match i, j, hi, hj with
  | 0, 0, _, _ => exact h1⟩

theorem Sm.len {a : Int} {l : List (List Int)} (h : Sm (a, l)) : a ≤ 61 ∧ l.length ≤ 100 ∧ ∀ x ∈ l, x.length ≤ 100 := h
end Cg

/-
  The codes' contracts: laws of drawn clause sets. No condition.
-/
set_option linter.unusedVariables false
set_option linter.unusedSimpArgs false
set_option maxRecDepth 100000
namespace Cg
open Go Go.Proofs

theorem byt_of {l : List Int} (h : ∀ x ∈ l, (Lit.int .u8 x).wf = true) : Byt l := fun x hx => by
  have := h x hx
  simp [Lit.wf, IntKind.min, IntKind.max, IntKind.signed, IntKind.bits] at this
  omega
end Cg

/-
  The codes' contracts: drawn models. No condition.
-/
set_option linter.unusedVariables false
set_option linter.unusedSimpArgs false
set_option maxRecDepth 100000
namespace Cg
open Go Go.Proofs Pl
/-- The places, with the last one put in at x. -/
def insI (x n : Nat) : List Nat := List.range x ++ [n] ++ List.range' x (n - x)
end Cg

/-
  What is left to show of each function's code, printed by a program: Mlt. No condition.
-/
set_option maxRecDepth 100000
set_option linter.unusedVariables false
namespace Cg
open Go Go.Proofs
end Cg

/-
  What is left to show of each function's code, printed by a program: Lit. No condition.
-/
set_option maxRecDepth 100000
set_option linter.unusedVariables false
namespace Cg
open Go Go.Proofs
end Cg

/-
  What is left to show of each function's code, printed by a program: Same. No condition.
-/
set_option maxRecDepth 100000
set_option linter.unusedVariables false
namespace Cg
open Go Go.Proofs
theorem vc_EqualT (n : Nat) (x : List Pl.Tm × List Pl.Tm) : (condP ((↑x.fst.length : Int) != (↑x.snd.length : Int)) (Bool.false = Decidable.decide (x.fst = x.snd))
 ((Exists fun (x_1 : Nat) =>
 (x_1 ≤ x.fst.length ∧ x.fst.length = x.snd.length ∧ (x.fst = x.snd ↔ List.drop x_1 x.fst = List.drop x_1 x.snd)) ∧
 (Is (terms x.fst) (terms x.fst) ∧
 Is (terms x.snd) (terms x.snd) ∧ True ∧ Is (terms x.fst) (terms x.fst) ∧ (↑x.fst.length : Int) = (↑x.fst.length : Int) ∧ (0 : Int) = (↑x_1 : Int) ∧ True) ∧
 True) ∧
 ∀ (x_1 : Nat),
 x_1 ≤ x.fst.length ∧ x.fst.length = x.snd.length ∧ (x.fst = x.snd ↔ List.drop x_1 x.fst = List.drop x_1 x.snd) →
 condP (Decidable.decide ((↑x_1 : Int) < (↑x.fst.length : Int)))
 (((0 : Int) ≤ (↑x_1 : Int) ∧ (↑x_1 : Int) < (↑x.fst.length : Int)) ∧
 x_1 < x.fst.length ∧
 ((0 : Int) ≤ (↑x_1 : Int) ∧ (↑x_1 : Int) < (↑x.snd.length : Int)) ∧
 x_1 < x.snd.length ∧
 Exists fun (x_2 : Pl.TP × Pl.TP) =>
 ((Pl.Tree.val (x.fst.getD x_1 Pl.dT) = x_2.fst.fst ∧ Is (kidsT (x.fst.getD x_1 Pl.dT)) (terms x_2.fst.snd) ∧ True) ∧
 (Pl.Tree.val (x.snd.getD x_1 Pl.dT) = x_2.snd.fst ∧ Is (kidsT (x.snd.getD x_1 Pl.dT)) (terms x_2.snd.snd) ∧ True) ∧ True) ∧
 (SmT (Pl.Tree.mk x_2.fst.fst x_2.fst.snd) ∧ Pl.manyL x_2.fst.snd < n) ∧
 condP (!Decidable.decide (x_2.fst = x_2.snd)) (Bool.false = Decidable.decide (x.fst = x.snd))
 (Exists fun (x' : Nat) =>
 (x' ≤ x.fst.length ∧ x.fst.length = x.snd.length ∧ (x.fst = x.snd ↔ List.drop x' x.fst = List.drop x' x.snd)) ∧
 x.fst.length - x' < x.fst.length - x_1 ∧
 (Is (terms x.fst) (terms x.fst) ∧
 Is (terms x.snd) (terms x.snd) ∧
 True ∧
 Is (terms x.fst) (terms x.fst) ∧ (↑x.fst.length : Int) = (↑x.fst.length : Int) ∧ IntKind.i64.wrap ((↑x_1 : Int) + (1 : Int)) = (↑x' : Int) ∧ True) ∧
 True))
 (Bool.true = Decidable.decide (x.fst = x.snd)))) = Goal Try.prog [(K_iTSame n)] (A_EqualT x.1 x.2) (K_EqualT (n + 1)).1 (K_EqualT (n + 1)).2 (x) := by kernel_rfl

theorem vc_iTSame (n : Nat) (x : Pl.TP × Pl.TP) : (condP (x.fst.fst.toList == x.snd.fst.toList)
 (Exists fun (x_1 : List Pl.Tm × List Pl.Tm) =>
 (Is (terms x.fst.snd) (terms x_1.fst) ∧ Is (terms x.snd.snd) (terms x_1.snd) ∧ True ∧ True) ∧
 (SmTs x_1.fst ∧ Pl.manyL x_1.fst < n) ∧ Decidable.decide (x_1.fst = x_1.snd) = Decidable.decide (x.fst = x.snd))
 (Bool.false = Decidable.decide (x.fst = x.snd))) = Goal Try.prog [(K_EqualT n)] ([]) (K_iTSame n).1 (K_iTSame n).2 (x) := by kernel_rfl

theorem vc_iAtomSame (x : Pl.Atm × Pl.Atm) : (condP (x.fst.fst == x.snd.fst)
 (Exists fun (x_1 : Pl.TP × Pl.TP) =>
 ((x.fst.snd.fst.fst = x_1.fst.fst ∧ Is (terms x.fst.snd.fst.snd) (terms x_1.fst.snd) ∧ True) ∧
 (x.snd.snd.fst.fst = x_1.snd.fst ∧ Is (terms x.snd.snd.fst.snd) (terms x_1.snd.snd) ∧ True) ∧ True) ∧
 SmT (Pl.Tree.mk x_1.fst.fst x_1.fst.snd) ∧
 condP (Decidable.decide (x_1.fst = x_1.snd))
 (Exists fun (x_2 : Pl.TP × Pl.TP) =>
 ((x.fst.snd.snd.fst.fst = x_2.fst.fst ∧ Is (terms x.fst.snd.snd.fst.snd) (terms x_2.fst.snd) ∧ True) ∧
 (x.snd.snd.snd.fst.fst = x_2.snd.fst ∧ Is (terms x.snd.snd.snd.fst.snd) (terms x_2.snd.snd) ∧ True) ∧ True) ∧
 SmT (Pl.Tree.mk x_2.fst.fst x_2.fst.snd) ∧
 condP (Decidable.decide (x_2.fst = x_2.snd))
 (Exists fun (x_3 : List Pl.Tm × List Pl.Tm) =>
 (Is (terms x.fst.snd.snd.snd.fst) (terms x_3.fst) ∧ Is (terms x.snd.snd.snd.snd.fst) (terms x_3.snd) ∧ True ∧ True) ∧
 SmTs x_3.fst ∧
 condP (Decidable.decide (x_3.fst = x_3.snd))
 (Exists fun (x_4 : List Int × List Int) =>
 (Is (ints x.fst.snd.snd.snd.snd.fst) (ints x_4.fst) ∧ Is (ints x.snd.snd.snd.snd.snd.fst) (ints x_4.snd) ∧ True) ∧
 Sz x_4.fst ∧
 condP (Decidable.decide (x_4.fst = x_4.snd))
 (condP (x.fst.snd.snd.snd.snd.snd.fst == x.snd.snd.snd.snd.snd.snd.fst)
 ((x.fst.snd.snd.snd.snd.snd.snd == x.snd.snd.snd.snd.snd.snd.snd) = Decidable.decide (x.fst = x.snd)) (Bool.false = Decidable.decide (x.fst = x.snd)))
 (Bool.false = Decidable.decide (x.fst = x.snd)))
 (Bool.false = Decidable.decide (x.fst = x.snd)))
 (Bool.false = Decidable.decide (x.fst = x.snd)))
 (Bool.false = Decidable.decide (x.fst = x.snd)))
 (Bool.false = Decidable.decide (x.fst = x.snd))) = Goal Try.prog [K_iTermSame, K_EqualTerms, K_slEqual] ([]) K_iAtomSame.1 K_iAtomSame.2 (x) := by kernel_rfl

end Cg

/-
  The codes' contracts: atoms, formulas, explanations, cases: sizes, copies, equality. No condition.
-/
set_option linter.unusedVariables false
set_option linter.unusedSimpArgs false
set_option maxRecDepth 100000
set_option maxHeartbeats 1000000
namespace Cg
open Go Go.Proofs Pl
section
variable {α : Type} {f : α → Nat}
theorem SmTrs.mem {l : List (Tree α)} (h : SmTrs f l) {t : Tree α} (ht : t ∈ l) : SmTr f t := by
  have := costTr_mem (f := f) ht
  have h1 : l.length + costTrs f l ≤ 1048576 := h
  show costTr f t ≤ 1048576
  omega
theorem SmTrs.len {l : List (Tree α)} (h : SmTrs f l) : l.length ≤ 1048576 := by
  have h1 : l.length + costTrs f l ≤ 1048576 := h
  omega
theorem SmTr.kids {v : α} {ks : List (Tree α)} (h : SmTr f (.mk v ks)) : SmTrs f ks := by
  have h1 : costTr f (.mk v ks) ≤ 1048576 := h
  rw [costTr_eq] at h1
  simp only [Tree.val, Tree.kids] at h1
  show ks.length + costTrs f ks ≤ 1048576
  omega
theorem SmTr.here {v : α} {ks : List (Tree α)} (h : SmTr f (.mk v ks)) : f v ≤ 1048576 := by
  have h1 : costTr f (.mk v ks) ≤ 1048576 := h
  rw [costTr_eq] at h1
  simp only [Tree.val, Tree.kids] at h1
  omega
end
theorem SmA.parts {x : Atm} (h : SmA x) : SmT (.mk x.2.1.1 x.2.1.2) ∧ SmT (.mk x.2.2.1.1 x.2.2.1.2) ∧ SmTs x.2.2.2.1 ∧ x.2.2.2.2.1.length ≤ 1048576 := by
  have h1 : costA x ≤ 1048576 := h
  unfold costA at h1
  refine ⟨?_, ?_, ?_, by omega⟩
  · show costT _ ≤ _; omega
  · show costT _ ≤ _; omega
  · show _ + _ ≤ _; omega

theorem k_iTSames (n : Nat) : SoundC Try.prog (K_EqualT n).1 (K_EqualT n).2 ∧ SoundC Try.prog (K_iTSame n).1 (K_iTSame n).2 := by
  induction n with
  | zero => exact ⟨sound_of hm CtxOK.nil (fun _ => []) (by kernel_rfl) fun x h => absurd h.2 (Nat.not_lt_zero _), sound_of hm CtxOK.nil (fun _ => []) (by kernel_rfl) fun x h => absurd h.2 (Nat.not_lt_zero _)⟩
  | succ n ih =>
    have h1 : SoundC Try.prog (K_EqualT (n + 1)).1 (K_EqualT (n + 1)).2 := sound_of hm (CtxOK.nil.and (K := K_iTSame n) ih.2) (fun x => A_EqualT x.1 x.2) (by kernel_rfl) fun (x : _) hl => (by
      have hn : manyL x.1 < n + 1 := hl.2
      replace hl := hl.1
      rw [← vc_EqualT n x]
      have hl : SmTs x.1 := hl
      obtain ⟨l, m⟩ := x
      dsimp only at *
      simp [-List.getD_eq_getElem?_getD, -List.mem_cons, -Bool.forall_bool, -Bool.exists_bool, and_assoc, peta, tl_inj, ex_1, ex_2, ex_3, ex_4, ex_5, ex_6, ex_7, ex_8, ex_9, ey_2, ey_3, ey_4, ey_5, ey_6, ey_7, ey_8, ey_9]
      have hlen := hl.len
      simp only [tparts']
      refine ⟨fun h e => h (by rw [e]), fun h => ⟨⟨0, by simp; omega⟩, fun k hk hlm he => ⟨fun hlt => ⟨hlt, by omega, hl.mem (getD_mem dT hlt), by have := manyL_kids (getD_mem dT hlt); omega, (eq_step dT hlt hlm he).1, fun h => ⟨k + 1, hlt, hlm, (eq_step dT hlt hlm he).2 h, by omega, wrap_small (by omega) (by omega)⟩⟩, fun hge => ?_⟩⟩⟩
      rw [drop_end (by omega), drop_end (l := m) (by omega)] at he
      exact he.2 rfl)
    have h2 : SoundC Try.prog (K_iTSame (n + 1)).1 (K_iTSame (n + 1)).2 := sound_of hm (CtxOK.nil.and (K := K_EqualT (n + 1)) h1) (fun _ => []) (by kernel_rfl) fun (x : _) hl => (by
      have hn : manyL x.1.2 < n + 1 := hl.2
      replace hl := hl.1
      rw [← vc_iTSame (n + 1) x]
      have hl : SmT (.mk x.1.1 x.1.2) := hl
      obtain ⟨⟨a, b⟩, c, d⟩ := x
      dsimp only at *
      simp [-List.getD_eq_getElem?_getD, -List.mem_cons, -Bool.forall_bool, -Bool.exists_bool, and_assoc, peta, tl_inj, ex_1, ex_2, ex_3, ex_4, ex_5, ex_6, ex_7, ex_8, ex_9, ey_2, ey_3, ey_4, ey_5, ey_6, ey_7, ey_8, ey_9]
      exact ⟨fun e => ⟨hl.kids, hn, fun _ => e⟩, fun h e => absurd e h⟩)
    exact ⟨h1, h2⟩

theorem k_iTermSame : SoundC Try.prog K_iTermSame.1 K_iTermSame.2 := SoundC.fam (fun x => manyL x.1.2) fun n => (k_iTSames n).2
theorem k_EqualTerms : SoundC Try.prog K_EqualTerms.1 K_EqualTerms.2 := SoundC.fam (fun x => manyL x.1) fun n => (k_iTSames n).1

theorem k_iAtomSame : SoundC Try.prog K_iAtomSame.1 K_iAtomSame.2 := sound_of hm (((CtxOK.nil.and k_slEqual).and k_EqualTerms).and k_iTermSame) (fun _ => []) (by kernel_rfl) fun x hl => (by
  rw [← vc_iAtomSame x]
  obtain ⟨s1, s2, s3, s4⟩ := SmA.parts (x := x.1) hl
  obtain ⟨⟨kind, A, B, nums, times, bound, strict⟩, kind', A', B', nums', times', bound', strict'⟩ := x
  dsimp only at *
  simp [-List.getD_eq_getElem?_getD, -List.mem_cons, -Bool.forall_bool, -Bool.exists_bool, and_assoc, peta, tl_inj, ex_1, ex_2, ex_3, ex_4, ex_5, ex_6, ex_7, ex_8, ex_9, ey_2, ey_3, ey_4, ey_5, ey_6, ey_7, ey_8, ey_9]
  repeat' (first | apply And.intro | intro _)
  all_goals first | contradiction | assumption | omega | (simp_all; done) | (cases strict <;> cases strict' <;> simp_all))

end Cg

/-
  The codes' contracts: lists of literals: sizes, copies, equality. No condition.
-/
set_option linter.unusedVariables false
set_option linter.unusedSimpArgs false
set_option maxRecDepth 100000
set_option maxHeartbeats 1000000
namespace Cg
open Go Go.Proofs Pl
theorem SmLs.mem {l : List Ltr} (h : SmLs l) {x : Ltr} (hx : x ∈ l) : SmA x.1 := by
  have h1 : l.length + sumN costL l ≤ 1048576 := h
  have h2 := sumN_mem costL hx
  have h3 : costL x = costA x.1 := rfl
  show costA x.1 ≤ 1048576
  omega
theorem SmLs.len {l : List Ltr} (h : SmLs l) : l.length ≤ 1048576 := by
  have h1 : l.length + sumN costL l ≤ 1048576 := h
  omega
end Cg

/-
  What is left to show of each function's code, printed by a program: Atm. No condition.
-/
set_option maxRecDepth 100000
set_option linter.unusedVariables false
namespace Cg
open Go Go.Proofs
theorem vc_l4Text (n : Nat) (x : Pl.TP) : ((Exists fun (x_1 : Nat) =>
 x_1 ≤ x.snd.length ∧
 ((0 : Nat) = (0 : Nat) ∧ x.fst = Pl.spell x.fst (List.take x_1 x.snd) ∧ (0 : Int) = (↑x_1 : Int) ∧ True) ∧ (x.fst = x.fst ∧ Is (terms x.snd) (terms x.snd) ∧ True) ∧ True) ∧
 ∀ (x_1 : Nat),
 x_1 ≤ x.snd.length →
 condP (Decidable.decide ((↑x_1 : Int) < (↑x.snd.length : Int)))
 (condP ((↑x_1 : Int) == (0 : Int))
 ((↑((Pl.spell x.fst (List.take x_1 x.snd)).size + (1 : Nat)) : Int) ≤ (9223372036854775807 : Int) ∧
 ((0 : Int) ≤ (↑x_1 : Int) ∧ (↑x_1 : Int) < (↑x.snd.length : Int)) ∧
 x_1 < x.snd.length ∧
 Exists fun (x_2 : Pl.TP) =>
 ((Pl.Tree.val (x.snd.getD x_1 Pl.dT) = x_2.fst ∧ Is (kidsT (x.snd.getD x_1 Pl.dT)) (terms x_2.snd) ∧ True) ∧ True) ∧
 (SmT (Pl.Tree.mk x_2.fst x_2.snd) ∧ Pl.manyL x_2.snd < n) ∧
 (↑((ByteArray.mk (Array.mk ((Pl.spell x.fst (List.take x_1 x.snd)).data.toList ++ [(40 : UInt8)]))).size + (Pl.textT (Pl.Tree.mk x_2.fst x_2.snd)).size) : Int) ≤
 (9223372036854775807 : Int) ∧
 Exists fun (x' : Nat) =>
 x' ≤ x.snd.length ∧
 x.snd.length - x' < x.snd.length - x_1 ∧
 ((0 : Nat) = (0 : Nat) ∧
 ByteArray.mk
 (Array.mk
 ((ByteArray.mk (Array.mk ((Pl.spell x.fst (List.take x_1 x.snd)).data.toList ++ [(40 : UInt8)]))).data.toList ++
 (Pl.textT (Pl.Tree.mk x_2.fst x_2.snd)).data.toList)) =
 Pl.spell x.fst (List.take x' x.snd) ∧
 IntKind.i64.wrap ((↑x_1 : Int) + (1 : Int)) = (↑x' : Int) ∧ True) ∧
 (x.fst = x.fst ∧ Is (terms x.snd) (terms x.snd) ∧ True) ∧ True)
 ((↑((Pl.spell x.fst (List.take x_1 x.snd)).size + (1 : Nat)) : Int) ≤ (9223372036854775807 : Int) ∧
 ((0 : Int) ≤ (↑x_1 : Int) ∧ (↑x_1 : Int) < (↑x.snd.length : Int)) ∧
 x_1 < x.snd.length ∧
 Exists fun (x_2 : Pl.TP) =>
 ((Pl.Tree.val (x.snd.getD x_1 Pl.dT) = x_2.fst ∧ Is (kidsT (x.snd.getD x_1 Pl.dT)) (terms x_2.snd) ∧ True) ∧ True) ∧
 (SmT (Pl.Tree.mk x_2.fst x_2.snd) ∧ Pl.manyL x_2.snd < n) ∧
 (↑((ByteArray.mk (Array.mk ((Pl.spell x.fst (List.take x_1 x.snd)).data.toList ++ [(44 : UInt8)]))).size + (Pl.textT (Pl.Tree.mk x_2.fst x_2.snd)).size) : Int) ≤
 (9223372036854775807 : Int) ∧
 Exists fun (x' : Nat) =>
 x' ≤ x.snd.length ∧
 x.snd.length - x' < x.snd.length - x_1 ∧
 ((0 : Nat) = (0 : Nat) ∧
 ByteArray.mk
 (Array.mk
 ((ByteArray.mk (Array.mk ((Pl.spell x.fst (List.take x_1 x.snd)).data.toList ++ [(44 : UInt8)]))).data.toList ++
 (Pl.textT (Pl.Tree.mk x_2.fst x_2.snd)).data.toList)) =
 Pl.spell x.fst (List.take x' x.snd) ∧
 IntKind.i64.wrap ((↑x_1 : Int) + (1 : Int)) = (↑x' : Int) ∧ True) ∧
 (x.fst = x.fst ∧ Is (terms x.snd) (terms x.snd) ∧ True) ∧ True))
 (condP (Decidable.decide ((↑x.snd.length : Int) > (0 : Int)))
 ((↑((Pl.spell x.fst (List.take x_1 x.snd)).size + (1 : Nat)) : Int) ≤ (9223372036854775807 : Int) ∧
 ByteArray.mk (Array.mk ((Pl.spell x.fst (List.take x_1 x.snd)).data.toList ++ [(41 : UInt8)])) = Pl.textT (Pl.Tree.mk x.fst x.snd))
 (Pl.spell x.fst (List.take x_1 x.snd) = Pl.textT (Pl.Tree.mk x.fst x.snd)))) = Goal Try.prog [(K_l4Text n)] (A_l4Text x.1 x.2) (K_l4Text (n + 1)).1 (K_l4Text (n + 1)).2 (x) := by kernel_rfl

theorem vc_termText (n : Nat) (x : Pl.TP) : (condP ((↑x.snd.length : Int) == (0 : Int)) (x.fst = Pl.textT (Pl.Tree.mk x.fst x.snd))
 ((Exists fun (x_1 : Nat) =>
 (x_1 ≤ x.snd.length ∧ x.snd ≠ []) ∧
 ((0 : Nat) = (0 : Nat) ∧
 ((0 : Nat) = (0 : Nat) ∧ (0 : Nat) = (0 : Nat) ∧ (Pl.textL (List.take x_1 x.snd)).length = (0 : Nat)) ∧
 Is (terms x.snd) (terms x.snd) ∧ (↑x.snd.length : Int) = (↑x.snd.length : Int) ∧ (0 : Int) = (↑x_1 : Int) ∧ True) ∧
 (x.fst = x.fst ∧ Is (terms x.snd) (terms x.snd) ∧ True) ∧ (Pl.textL (List.take x_1 x.snd)).length = (0 : Nat) ∧ True) ∧
 ∀ (x_1 : Nat),
 x_1 ≤ x.snd.length ∧ x.snd ≠ [] →
 condP (Decidable.decide ((↑x_1 : Int) < (↑x.snd.length : Int)))
 (((0 : Int) ≤ (↑x_1 : Int) ∧ (↑x_1 : Int) < (↑x.snd.length : Int)) ∧
 x_1 < x.snd.length ∧
 Exists fun (x_2 : Pl.TP) =>
 ((Pl.Tree.val (x.snd.getD x_1 Pl.dT) = x_2.fst ∧ Is (kidsT (x.snd.getD x_1 Pl.dT)) (terms x_2.snd) ∧ True) ∧ True) ∧
 (SmT (Pl.Tree.mk x_2.fst x_2.snd) ∧ Pl.manyL x_2.snd < n) ∧
 (0 : Nat) + (Pl.textL (List.take x_1 x.snd)).length ≤ (Pl.textL (List.take x_1 x.snd)).length ∧
 ((Pl.textL (List.take x_1 x.snd)).length + (1 : Nat)) * (16 : Nat) ≤ (70368744177664 : Nat) ∧
 Exists fun (x' : Nat) =>
 (x' ≤ x.snd.length ∧ x.snd ≠ []) ∧
 x.snd.length - x' < x.snd.length - x_1 ∧
 ((0 : Nat) = (0 : Nat) ∧
 ((0 : Nat) = (0 : Nat) ∧ (Pl.textL (List.take x_1 x.snd)).length + (1 : Nat) = (Pl.textL (List.take x' x.snd)).length) ∧
 Is (terms x.snd) (terms x.snd) ∧ (↑x.snd.length : Int) = (↑x.snd.length : Int) ∧ IntKind.i64.wrap ((↑x_1 : Int) + (1 : Int)) = (↑x' : Int) ∧ True) ∧
 (x.fst = x.fst ∧ Is (terms x.snd) (terms x.snd) ∧ True) ∧
 IsO
 (AObj.arr ((Pl.textL (List.take x_1 x.snd)).length + (1 : Nat)) (1 : Nat)
 (joinC (Pl.textL (List.take x_1 x.snd)).length (cS (Pl.textL (List.take x_1 x.snd))) (rowsCell [[st (Pl.textT (Pl.Tree.mk x_2.fst x_2.snd))]])))
 (arS (Pl.textL (List.take x' x.snd))) ∧
 True)
 ((↑(x.fst.size + (1 : Nat)) : Int) ≤ (9223372036854775807 : Int) ∧
 (0 : Nat) + (Pl.textL (List.take x_1 x.snd)).length ≤ (Pl.textL (List.take x_1 x.snd)).length ∧
 Exists fun (x_2 : List ByteArray × ByteArray) =>
 (Is (strs (Pl.textL (List.take x_1 x.snd))) (strs x_2.fst) ∧ ByteArray.mk #[(44 : UInt8)] = x_2.snd ∧ True) ∧
 (x_2.fst.length ≤ (140737488355328 : Nat) ∧ (Pl.joinS x_2.fst x_2.snd).size ≤ (140737488355328 : Nat)) ∧
 (↑((ByteArray.mk (Array.mk (x.fst.data.toList ++ [(40 : UInt8)]))).size + (Pl.joinS x_2.fst x_2.snd).size) : Int) ≤ (9223372036854775807 : Int) ∧
 (↑((ByteArray.mk (Array.mk ((ByteArray.mk (Array.mk (x.fst.data.toList ++ [(40 : UInt8)]))).data.toList ++ (Pl.joinS x_2.fst x_2.snd).data.toList))).size + (1 : Nat)) : Int) ≤
 (9223372036854775807 : Int) ∧
 ByteArray.mk
 (Array.mk
 ((ByteArray.mk (Array.mk ((ByteArray.mk (Array.mk (x.fst.data.toList ++ [(40 : UInt8)]))).data.toList ++ (Pl.joinS x_2.fst x_2.snd).data.toList))).data.toList ++
 [(41 : UInt8)])) =
 Pl.textT (Pl.Tree.mk x.fst x.snd)))) = Goal Try.prog [(K_termText n), K_Join] (A_termText x.1 x.2) (K_termText (n + 1)).1 (K_termText (n + 1)).2 (x) := by kernel_rfl

theorem vc_l6None (x : Pl.TP) : (condP (x.fst.toList == (ByteArray.mk #[]).toList) (((↑x.snd.length : Int) == (0 : Int)) = Pl.noneT x) (Bool.false = Pl.noneT x)) = Goal Try.prog [] ([]) K_l6None.1 K_l6None.2 (x) := by kernel_rfl

theorem vc_isNone (x : Pl.TP) : (condP (x.fst.toList == (ByteArray.mk #[]).toList) (((↑x.snd.length : Int) == (0 : Int)) = Pl.noneT x) (Bool.false = Pl.noneT x)) = Goal Try.prog [] ([]) K_isNone.1 K_isNone.2 (x) := by kernel_rfl

theorem vc_l6Sum (x : Pl.Atm) : (Exists fun (x_1 : Pl.TP) =>
 ((x.snd.fst.fst = x_1.fst ∧ Is (terms x.snd.fst.snd) (terms x_1.snd) ∧ True) ∧ True) ∧
 True ∧
 condP (!Pl.noneT x_1) (Bool.false = Pl.sumRight x)
 (Exists fun (x_2 : Pl.TP) =>
 ((x.snd.snd.fst.fst = x_2.fst ∧ Is (terms x.snd.snd.fst.snd) (terms x_2.snd) ∧ True) ∧ True) ∧
 True ∧
 condP (!Pl.noneT x_2) (Bool.false = Pl.sumRight x)
 (condP ((↑x.snd.snd.snd.fst.length : Int) != (↑x.snd.snd.snd.snd.fst.length : Int)) (Bool.false = Pl.sumRight x)
 (condP (Decidable.decide ((↑x.snd.snd.snd.fst.length : Int) < (1 : Int))) (Bool.false = Pl.sumRight x)
 (condP (Decidable.decide ((↑x.snd.snd.snd.fst.length : Int) > (4 : Int))) (Bool.false = Pl.sumRight x)
 (condP (Decidable.decide (x.snd.snd.snd.snd.snd.fst < (-1000 : Int))) (Bool.false = Pl.sumRight x)
 (condP (Decidable.decide (x.snd.snd.snd.snd.snd.fst > (1000 : Int))) (Bool.false = Pl.sumRight x)
 ((Exists fun (x_3 : Nat) =>
 (Pl.sumHead x = Bool.true ∧
 x_3 ≤ x.snd.snd.snd.fst.length ∧
 Pl.numOk Option.none x.snd.snd.snd.fst x.snd.snd.snd.snd.fst =
 Pl.numOk (Pl.prevN x.snd.snd.snd.fst x_3) (List.drop x_3 x.snd.snd.snd.fst) (List.drop x_3 x.snd.snd.snd.snd.fst)) ∧
 ((0 : Nat) = (0 : Nat) ∧ (0 : Int) = (↑x_3 : Int) ∧ True) ∧
 (x.fst = x.fst ∧
 x.snd.fst.fst = x.snd.fst.fst ∧
 Is (terms x.snd.fst.snd) (terms x.snd.fst.snd) ∧
 x.snd.snd.fst.fst = x.snd.snd.fst.fst ∧
 Is (terms x.snd.snd.fst.snd) (terms x.snd.snd.fst.snd) ∧
 Is (terms x.snd.snd.snd.fst) (terms x.snd.snd.snd.fst) ∧
 Is (ints x.snd.snd.snd.snd.fst) (ints x.snd.snd.snd.snd.fst) ∧
 x.snd.snd.snd.snd.snd.fst = x.snd.snd.snd.snd.snd.fst ∧ x.snd.snd.snd.snd.snd.snd = x.snd.snd.snd.snd.snd.snd ∧ True) ∧
 True) ∧
 ∀ (x_3 : Nat),
 Pl.sumHead x = Bool.true ∧
 x_3 ≤ x.snd.snd.snd.fst.length ∧
 Pl.numOk Option.none x.snd.snd.snd.fst x.snd.snd.snd.snd.fst =
 Pl.numOk (Pl.prevN x.snd.snd.snd.fst x_3) (List.drop x_3 x.snd.snd.snd.fst) (List.drop x_3 x.snd.snd.snd.snd.fst) →
 condP (Decidable.decide ((↑x_3 : Int) < (↑x.snd.snd.snd.fst.length : Int)))
 (((0 : Int) ≤ (↑x_3 : Int) ∧ (↑x_3 : Int) < (↑x.snd.snd.snd.snd.fst.length : Int)) ∧
 x_3 < x.snd.snd.snd.snd.fst.length ∧
 ((0 : Int) ≤ (↑x_3 : Int) ∧ (↑x_3 : Int) < (↑x.snd.snd.snd.fst.length : Int)) ∧
 x_3 < x.snd.snd.snd.fst.length ∧
 Exists fun (x_4 : Pl.TP) =>
 ((Pl.Tree.val (x.snd.snd.snd.fst.getD x_3 Pl.dT) = x_4.fst ∧ Is (kidsT (x.snd.snd.snd.fst.getD x_3 Pl.dT)) (terms x_4.snd) ∧ True) ∧ True) ∧
 SmT (Pl.Tree.mk x_4.fst x_4.snd) ∧
 condP (!Pl.right (Pl.Tree.mk x_4.fst x_4.snd)) (Bool.false = Pl.sumRight x)
 (condP (x.snd.snd.snd.snd.fst.getD x_3 (0 : Int) == (0 : Int)) (Bool.false = Pl.sumRight x)
 (condP (Decidable.decide (x.snd.snd.snd.snd.fst.getD x_3 (0 : Int) < (-50 : Int))) (Bool.false = Pl.sumRight x)
 (condP (Decidable.decide (x.snd.snd.snd.snd.fst.getD x_3 (0 : Int) > (50 : Int))) (Bool.false = Pl.sumRight x)
 (condP (Decidable.decide ((↑x_3 : Int) > (0 : Int)))
 (((0 : Int) ≤ IntKind.i64.wrap ((↑x_3 : Int) - (1 : Int)) ∧
 IntKind.i64.wrap ((↑x_3 : Int) - (1 : Int)) < (↑x.snd.snd.snd.fst.length : Int)) ∧
 (IntKind.i64.wrap ((↑x_3 : Int) - (1 : Int))).toNat < x.snd.snd.snd.fst.length ∧
 Exists fun (x_5 : Pl.TP) =>
 ((Pl.Tree.val (x.snd.snd.snd.fst.getD (IntKind.i64.wrap ((↑x_3 : Int) - (1 : Int))).toNat Pl.dT) = x_5.fst ∧
 Is (kidsT (x.snd.snd.snd.fst.getD (IntKind.i64.wrap ((↑x_3 : Int) - (1 : Int))).toNat Pl.dT)) (terms x_5.snd) ∧
 True) ∧
 True) ∧
 SmT (Pl.Tree.mk x_5.fst x_5.snd) ∧
 ((0 : Int) ≤ (↑x_3 : Int) ∧ (↑x_3 : Int) < (↑x.snd.snd.snd.fst.length : Int)) ∧
 x_3 < x.snd.snd.snd.fst.length ∧
 Exists fun (x_6 : Pl.TP) =>
 ((Pl.Tree.val (x.snd.snd.snd.fst.getD x_3 Pl.dT) = x_6.fst ∧
 Is (kidsT (x.snd.snd.snd.fst.getD x_3 Pl.dT)) (terms x_6.snd) ∧ True) ∧
 True) ∧
 SmT (Pl.Tree.mk x_6.fst x_6.snd) ∧
 condP (!Op.bytesLess (Pl.textT (Pl.Tree.mk x_5.fst x_5.snd)).toList (Pl.textT (Pl.Tree.mk x_6.fst x_6.snd)).toList)
 (Bool.false = Pl.sumRight x)
 (Exists fun (x' : Nat) =>
 (Pl.sumHead x = Bool.true ∧
 x' ≤ x.snd.snd.snd.fst.length ∧
 Pl.numOk Option.none x.snd.snd.snd.fst x.snd.snd.snd.snd.fst =
 Pl.numOk (Pl.prevN x.snd.snd.snd.fst x') (List.drop x' x.snd.snd.snd.fst)
 (List.drop x' x.snd.snd.snd.snd.fst)) ∧
 x.snd.snd.snd.fst.length - x' < x.snd.snd.snd.fst.length - x_3 ∧
 ((0 : Nat) = (0 : Nat) ∧ IntKind.i64.wrap ((↑x_3 : Int) + (1 : Int)) = (↑x' : Int) ∧ True) ∧
 (x.fst = x.fst ∧
 x.snd.fst.fst = x.snd.fst.fst ∧
 Is (terms x.snd.fst.snd) (terms x.snd.fst.snd) ∧
 x.snd.snd.fst.fst = x.snd.snd.fst.fst ∧
 Is (terms x.snd.snd.fst.snd) (terms x.snd.snd.fst.snd) ∧
 Is (terms x.snd.snd.snd.fst) (terms x.snd.snd.snd.fst) ∧
 Is (ints x.snd.snd.snd.snd.fst) (ints x.snd.snd.snd.snd.fst) ∧
 x.snd.snd.snd.snd.snd.fst = x.snd.snd.snd.snd.snd.fst ∧
 x.snd.snd.snd.snd.snd.snd = x.snd.snd.snd.snd.snd.snd ∧ True) ∧
 True))
 (Exists fun (x' : Nat) =>
 (Pl.sumHead x = Bool.true ∧
 x' ≤ x.snd.snd.snd.fst.length ∧
 Pl.numOk Option.none x.snd.snd.snd.fst x.snd.snd.snd.snd.fst =
 Pl.numOk (Pl.prevN x.snd.snd.snd.fst x') (List.drop x' x.snd.snd.snd.fst) (List.drop x' x.snd.snd.snd.snd.fst)) ∧
 x.snd.snd.snd.fst.length - x' < x.snd.snd.snd.fst.length - x_3 ∧
 ((0 : Nat) = (0 : Nat) ∧ IntKind.i64.wrap ((↑x_3 : Int) + (1 : Int)) = (↑x' : Int) ∧ True) ∧
 (x.fst = x.fst ∧
 x.snd.fst.fst = x.snd.fst.fst ∧
 Is (terms x.snd.fst.snd) (terms x.snd.fst.snd) ∧
 x.snd.snd.fst.fst = x.snd.snd.fst.fst ∧
 Is (terms x.snd.snd.fst.snd) (terms x.snd.snd.fst.snd) ∧
 Is (terms x.snd.snd.snd.fst) (terms x.snd.snd.snd.fst) ∧
 Is (ints x.snd.snd.snd.snd.fst) (ints x.snd.snd.snd.snd.fst) ∧
 x.snd.snd.snd.snd.snd.fst = x.snd.snd.snd.snd.snd.fst ∧
 x.snd.snd.snd.snd.snd.snd = x.snd.snd.snd.snd.snd.snd ∧ True) ∧
 True))))))
 (Bool.true = Pl.sumRight x))))))))) = Goal Try.prog [K_l6None, K_l4Right, K_lText] (A_l6Sum x) K_l6Sum.1 K_l6Sum.2 (x) := by kernel_rfl

theorem vc_l6Right (x : Pl.Atm) : (condP (x.fst == (2 : Int))
 (Exists fun (x_1 : Pl.Atm) =>
 ((x.fst = x_1.fst ∧
 x.snd.fst.fst = x_1.snd.fst.fst ∧
 Is (terms x.snd.fst.snd) (terms x_1.snd.fst.snd) ∧
 x.snd.snd.fst.fst = x_1.snd.snd.fst.fst ∧
 Is (terms x.snd.snd.fst.snd) (terms x_1.snd.snd.fst.snd) ∧
 Is (terms x.snd.snd.snd.fst) (terms x_1.snd.snd.snd.fst) ∧
 Is (ints x.snd.snd.snd.snd.fst) (ints x_1.snd.snd.snd.snd.fst) ∧
 x.snd.snd.snd.snd.snd.fst = x_1.snd.snd.snd.snd.snd.fst ∧ x.snd.snd.snd.snd.snd.snd = x_1.snd.snd.snd.snd.snd.snd ∧ True) ∧
 True) ∧
 SmA x_1 ∧ Pl.sumRight x_1 = Pl.atomRight x)
 (condP (x.fst == (1 : Int))
 (Exists fun (x_1 : Pl.TP) =>
 ((x.snd.fst.fst = x_1.fst ∧ Is (terms x.snd.fst.snd) (terms x_1.snd) ∧ True) ∧ True) ∧
 SmT (Pl.Tree.mk x_1.fst x_1.snd) ∧
 condP (Pl.right (Pl.Tree.mk x_1.fst x_1.snd))
 (Exists fun (x_2 : Pl.TP) =>
 ((x.snd.snd.fst.fst = x_2.fst ∧ Is (terms x.snd.snd.fst.snd) (terms x_2.snd) ∧ True) ∧ True) ∧
 SmT (Pl.Tree.mk x_2.fst x_2.snd) ∧
 condP (Pl.right (Pl.Tree.mk x_2.fst x_2.snd))
 (condP ((↑x.snd.snd.snd.fst.length : Int) == (0 : Int))
 (condP ((↑x.snd.snd.snd.snd.fst.length : Int) == (0 : Int))
 (condP (x.snd.snd.snd.snd.snd.fst == (0 : Int)) ((!x.snd.snd.snd.snd.snd.snd) = Pl.atomRight x) (Bool.false = Pl.atomRight x)) (Bool.false = Pl.atomRight x))
 (Bool.false = Pl.atomRight x))
 (Bool.false = Pl.atomRight x))
 (Bool.false = Pl.atomRight x))
 (Bool.false = Pl.atomRight x))) = Goal Try.prog [K_l6Sum, K_l4Right] ([]) K_l6Right.1 K_l6Right.2 (x) := by kernel_rfl

theorem vc_Atomok (x : Pl.Atm) : (condP (x.fst == (1 : Int))
 (Exists fun (x_1 : Pl.TP) =>
 ((x.snd.fst.fst = x_1.fst ∧ Is (terms x.snd.fst.snd) (terms x_1.snd) ∧ True) ∧ True) ∧
 SmT (Pl.Tree.mk x_1.fst x_1.snd) ∧
 condP (Pl.right (Pl.Tree.mk x_1.fst x_1.snd))
 (Exists fun (x_2 : Pl.TP) =>
 ((x.snd.snd.fst.fst = x_2.fst ∧ Is (terms x.snd.snd.fst.snd) (terms x_2.snd) ∧ True) ∧ True) ∧
 SmT (Pl.Tree.mk x_2.fst x_2.snd) ∧
 condP (Pl.right (Pl.Tree.mk x_2.fst x_2.snd))
 (condP ((↑x.snd.snd.snd.fst.length : Int) == (0 : Int))
 (condP ((↑x.snd.snd.snd.snd.fst.length : Int) == (0 : Int))
 (condP (x.snd.snd.snd.snd.snd.fst == (0 : Int)) ((!x.snd.snd.snd.snd.snd.snd) = Pl.atomRight x) (Bool.false = Pl.atomRight x)) (Bool.false = Pl.atomRight x))
 (Bool.false = Pl.atomRight x))
 (Bool.false = Pl.atomRight x))
 (Bool.false = Pl.atomRight x))
 (condP (x.fst == (2 : Int))
 (Exists fun (x_1 : Pl.TP) =>
 ((x.snd.fst.fst = x_1.fst ∧ Is (terms x.snd.fst.snd) (terms x_1.snd) ∧ True) ∧ True) ∧
 True ∧
 condP (!Pl.noneT x_1) (Bool.false = Pl.atomRight x)
 (Exists fun (x_2 : Pl.TP) =>
 ((x.snd.snd.fst.fst = x_2.fst ∧ Is (terms x.snd.snd.fst.snd) (terms x_2.snd) ∧ True) ∧ True) ∧
 True ∧
 condP (!Pl.noneT x_2) (Bool.false = Pl.atomRight x)
 (Exists fun (x_3 : Int × Int × Int) =>
 ((↑x.snd.snd.snd.fst.length : Int) = x_3.fst ∧ (1 : Int) = x_3.snd.fst ∧ (4 : Int) = x_3.snd.snd ∧ True) ∧
 True ∧
 condP (!Pl.withinI x_3.fst x_3.snd.fst x_3.snd.snd) (Bool.false = Pl.atomRight x)
 (condP ((↑x.snd.snd.snd.snd.fst.length : Int) != (↑x.snd.snd.snd.fst.length : Int)) (Bool.false = Pl.atomRight x)
 (Exists fun (x_4 : Int × Int × Int) =>
 (x.snd.snd.snd.snd.snd.fst = x_4.fst ∧ (-1000 : Int) = x_4.snd.fst ∧ (1000 : Int) = x_4.snd.snd ∧ True) ∧
 True ∧
 condP (!Pl.withinI x_4.fst x_4.snd.fst x_4.snd.snd) (Bool.false = Pl.atomRight x)
 ((Exists fun (x_5 : Nat) =>
 (x.fst = (2 : Int) ∧
 Pl.sumHead x = Bool.true ∧
 x_5 ≤ x.snd.snd.snd.fst.length ∧
 Pl.numOk Option.none x.snd.snd.snd.fst x.snd.snd.snd.snd.fst =
 Pl.numOk (Pl.prevN x.snd.snd.snd.fst x_5) (List.drop x_5 x.snd.snd.snd.fst) (List.drop x_5 x.snd.snd.snd.snd.fst)) ∧
 ((0 : Nat) = (0 : Nat) ∧
 Is (terms x.snd.snd.snd.fst) (terms x.snd.snd.snd.fst) ∧
 (↑x.snd.snd.snd.fst.length : Int) = (↑x.snd.snd.snd.fst.length : Int) ∧ (0 : Int) = (↑x_5 : Int) ∧ True) ∧
 (x.fst = x.fst ∧
 x.snd.fst.fst = x.snd.fst.fst ∧
 Is (terms x.snd.fst.snd) (terms x.snd.fst.snd) ∧
 x.snd.snd.fst.fst = x.snd.snd.fst.fst ∧
 Is (terms x.snd.snd.fst.snd) (terms x.snd.snd.fst.snd) ∧
 Is (terms x.snd.snd.snd.fst) (terms x.snd.snd.snd.fst) ∧
 Is (ints x.snd.snd.snd.snd.fst) (ints x.snd.snd.snd.snd.fst) ∧
 x.snd.snd.snd.snd.snd.fst = x.snd.snd.snd.snd.snd.fst ∧ x.snd.snd.snd.snd.snd.snd = x.snd.snd.snd.snd.snd.snd ∧ True) ∧
 True) ∧
 ∀ (x_5 : Nat),
 x.fst = (2 : Int) ∧
 Pl.sumHead x = Bool.true ∧
 x_5 ≤ x.snd.snd.snd.fst.length ∧
 Pl.numOk Option.none x.snd.snd.snd.fst x.snd.snd.snd.snd.fst =
 Pl.numOk (Pl.prevN x.snd.snd.snd.fst x_5) (List.drop x_5 x.snd.snd.snd.fst) (List.drop x_5 x.snd.snd.snd.snd.fst) →
 condP (Decidable.decide ((↑x_5 : Int) < (↑x.snd.snd.snd.fst.length : Int)))
 (((0 : Int) ≤ (↑x_5 : Int) ∧ (↑x_5 : Int) < (↑x.snd.snd.snd.fst.length : Int)) ∧
 x_5 < x.snd.snd.snd.fst.length ∧
 Exists fun (x_6 : Pl.TP) =>
 ((Pl.Tree.val (x.snd.snd.snd.fst.getD x_5 Pl.dT) = x_6.fst ∧ Is (kidsT (x.snd.snd.snd.fst.getD x_5 Pl.dT)) (terms x_6.snd) ∧ True) ∧
 True) ∧
 SmT (Pl.Tree.mk x_6.fst x_6.snd) ∧
 condP (!Pl.right (Pl.Tree.mk x_6.fst x_6.snd)) (Bool.false = Pl.atomRight x)
 (((0 : Int) ≤ (↑x_5 : Int) ∧ (↑x_5 : Int) < (↑x.snd.snd.snd.snd.fst.length : Int)) ∧
 x_5 < x.snd.snd.snd.snd.fst.length ∧
 Exists fun (x_7 : Int × Int × Int) =>
 (x.snd.snd.snd.snd.fst.getD x_5 (0 : Int) = x_7.fst ∧ (-50 : Int) = x_7.snd.fst ∧ (50 : Int) = x_7.snd.snd ∧ True) ∧
 True ∧
 condP (!Pl.withinI x_7.fst x_7.snd.fst x_7.snd.snd) (Bool.false = Pl.atomRight x)
 (((0 : Int) ≤ (↑x_5 : Int) ∧ (↑x_5 : Int) < (↑x.snd.snd.snd.snd.fst.length : Int)) ∧
 x_5 < x.snd.snd.snd.snd.fst.length ∧
 condP (x.snd.snd.snd.snd.fst.getD x_5 (0 : Int) == (0 : Int)) (Bool.false = Pl.atomRight x)
 (condP (Decidable.decide ((↑x_5 : Int) > (0 : Int)))
 (((0 : Int) ≤ IntKind.i64.wrap ((↑x_5 : Int) - (1 : Int)) ∧
 IntKind.i64.wrap ((↑x_5 : Int) - (1 : Int)) < (↑x.snd.snd.snd.fst.length : Int)) ∧
 (IntKind.i64.wrap ((↑x_5 : Int) - (1 : Int))).toNat < x.snd.snd.snd.fst.length ∧
 Exists fun (x_8 : Pl.TP) =>
 ((Pl.Tree.val (x.snd.snd.snd.fst.getD (IntKind.i64.wrap ((↑x_5 : Int) - (1 : Int))).toNat Pl.dT) = x_8.fst ∧
 Is (kidsT (x.snd.snd.snd.fst.getD (IntKind.i64.wrap ((↑x_5 : Int) - (1 : Int))).toNat Pl.dT))
 (terms x_8.snd) ∧
 True) ∧
 True) ∧
 SmT (Pl.Tree.mk x_8.fst x_8.snd) ∧
 Exists fun (x_9 : Pl.TP) =>
 ((Pl.Tree.val (x.snd.snd.snd.fst.getD x_5 Pl.dT) = x_9.fst ∧
 Is (kidsT (x.snd.snd.snd.fst.getD x_5 Pl.dT)) (terms x_9.snd) ∧ True) ∧
 True) ∧
 SmT (Pl.Tree.mk x_9.fst x_9.snd) ∧
 condP
 (!Op.bytesLess (Pl.textT (Pl.Tree.mk x_8.fst x_8.snd)).toList
 (Pl.textT (Pl.Tree.mk x_9.fst x_9.snd)).toList)
 (Bool.false = Pl.atomRight x)
 (Exists fun (x' : Nat) =>
 (x.fst = (2 : Int) ∧
 Pl.sumHead x = Bool.true ∧
 x' ≤ x.snd.snd.snd.fst.length ∧
 Pl.numOk Option.none x.snd.snd.snd.fst x.snd.snd.snd.snd.fst =
 Pl.numOk (Pl.prevN x.snd.snd.snd.fst x') (List.drop x' x.snd.snd.snd.fst)
 (List.drop x' x.snd.snd.snd.snd.fst)) ∧
 x.snd.snd.snd.fst.length - x' < x.snd.snd.snd.fst.length - x_5 ∧
 ((0 : Nat) = (0 : Nat) ∧
 Is (terms x.snd.snd.snd.fst) (terms x.snd.snd.snd.fst) ∧
 (↑x.snd.snd.snd.fst.length : Int) = (↑x.snd.snd.snd.fst.length : Int) ∧
 IntKind.i64.wrap ((↑x_5 : Int) + (1 : Int)) = (↑x' : Int) ∧ True) ∧
 (x.fst = x.fst ∧
 x.snd.fst.fst = x.snd.fst.fst ∧
 Is (terms x.snd.fst.snd) (terms x.snd.fst.snd) ∧
 x.snd.snd.fst.fst = x.snd.snd.fst.fst ∧
 Is (terms x.snd.snd.fst.snd) (terms x.snd.snd.fst.snd) ∧
 Is (terms x.snd.snd.snd.fst) (terms x.snd.snd.snd.fst) ∧
 Is (ints x.snd.snd.snd.snd.fst) (ints x.snd.snd.snd.snd.fst) ∧
 x.snd.snd.snd.snd.snd.fst = x.snd.snd.snd.snd.snd.fst ∧
 x.snd.snd.snd.snd.snd.snd = x.snd.snd.snd.snd.snd.snd ∧ True) ∧
 True))
 (Exists fun (x' : Nat) =>
 (x.fst = (2 : Int) ∧
 Pl.sumHead x = Bool.true ∧
 x' ≤ x.snd.snd.snd.fst.length ∧
 Pl.numOk Option.none x.snd.snd.snd.fst x.snd.snd.snd.snd.fst =
 Pl.numOk (Pl.prevN x.snd.snd.snd.fst x') (List.drop x' x.snd.snd.snd.fst)
 (List.drop x' x.snd.snd.snd.snd.fst)) ∧
 x.snd.snd.snd.fst.length - x' < x.snd.snd.snd.fst.length - x_5 ∧
 ((0 : Nat) = (0 : Nat) ∧
 Is (terms x.snd.snd.snd.fst) (terms x.snd.snd.snd.fst) ∧
 (↑x.snd.snd.snd.fst.length : Int) = (↑x.snd.snd.snd.fst.length : Int) ∧
 IntKind.i64.wrap ((↑x_5 : Int) + (1 : Int)) = (↑x' : Int) ∧ True) ∧
 (x.fst = x.fst ∧
 x.snd.fst.fst = x.snd.fst.fst ∧
 Is (terms x.snd.fst.snd) (terms x.snd.fst.snd) ∧
 x.snd.snd.fst.fst = x.snd.snd.fst.fst ∧
 Is (terms x.snd.snd.fst.snd) (terms x.snd.snd.fst.snd) ∧
 Is (terms x.snd.snd.snd.fst) (terms x.snd.snd.snd.fst) ∧
 Is (ints x.snd.snd.snd.snd.fst) (ints x.snd.snd.snd.snd.fst) ∧
 x.snd.snd.snd.snd.snd.fst = x.snd.snd.snd.snd.snd.fst ∧
 x.snd.snd.snd.snd.snd.snd = x.snd.snd.snd.snd.snd.snd ∧ True) ∧
 True)))))
 (Bool.true = Pl.atomRight x)))))))
 (Bool.false = Pl.atomRight x))) = Goal Try.prog [K_isTerm, K_isNone, K_within, K_tText] (A_Atomok x) K_Atomok.1 K_Atomok.2 (x) := by kernel_rfl

theorem vc_sAtomOk (x : Pl.Sig × Pl.Atm) : (Exists fun (x_1 : Pl.Sig) =>
 ((Is (syms x.fst) (syms x_1) ∧ True) ∧ True) ∧
 SmG x_1 ∧
 condP (!Pl.sigOk x_1) (Bool.false = Pl.atomOk x.fst x.snd)
 (Exists fun (x_2 : Pl.Atm) =>
 ((x.snd.fst = x_2.fst ∧
 x.snd.snd.fst.fst = x_2.snd.fst.fst ∧
 Is (terms x.snd.snd.fst.snd) (terms x_2.snd.fst.snd) ∧
 x.snd.snd.snd.fst.fst = x_2.snd.snd.fst.fst ∧
 Is (terms x.snd.snd.snd.fst.snd) (terms x_2.snd.snd.fst.snd) ∧
 Is (terms x.snd.snd.snd.snd.fst) (terms x_2.snd.snd.snd.fst) ∧
 Is (ints x.snd.snd.snd.snd.snd.fst) (ints x_2.snd.snd.snd.snd.fst) ∧
 x.snd.snd.snd.snd.snd.snd.fst = x_2.snd.snd.snd.snd.snd.fst ∧ x.snd.snd.snd.snd.snd.snd.snd = x_2.snd.snd.snd.snd.snd.snd ∧ True) ∧
 True) ∧
 SmA x_2 ∧
 condP (!Pl.atomRight x_2) (Bool.false = Pl.atomOk x.fst x.snd)
 (condP (x.snd.fst == (1 : Int))
 (Exists fun (x_3 : Pl.Sig × Pl.TP) =>
 ((Is (syms x.fst) (syms x_3.fst) ∧ True) ∧ (x.snd.snd.fst.fst = x_3.snd.fst ∧ Is (terms x.snd.snd.fst.snd) (terms x_3.snd.snd) ∧ True) ∧ True) ∧
 (Pl.sigOk x_3.fst = Bool.true ∧ SmG x_3.fst ∧ SmT (Pl.Tree.mk x_3.snd.fst x_3.snd.snd)) ∧
 condP (Decidable.decide ((Pl.sortT x_3.fst (Pl.Tree.mk x_3.snd.fst x_3.snd.snd)).getD (-1 : Int) ≥ (0 : Int)))
 (Exists fun (x_4 : Pl.Sig × Pl.TP) =>
 ((Is (syms x.fst) (syms x_4.fst) ∧ True) ∧ (x.snd.snd.snd.fst.fst = x_4.snd.fst ∧ Is (terms x.snd.snd.snd.fst.snd) (terms x_4.snd.snd) ∧ True) ∧ True) ∧
 (Pl.sigOk x_4.fst = Bool.true ∧ SmG x_4.fst ∧ SmT (Pl.Tree.mk x_4.snd.fst x_4.snd.snd)) ∧
 ((Pl.sortT x_3.fst (Pl.Tree.mk x_3.snd.fst x_3.snd.snd)).getD (-1 : Int) == (Pl.sortT x_4.fst (Pl.Tree.mk x_4.snd.fst x_4.snd.snd)).getD (-1 : Int)) =
 Pl.atomOk x.fst x.snd)
 (Bool.false = Pl.atomOk x.fst x.snd))
 ((Exists fun (x_3 : Nat) =>
 (Pl.sigOk x.fst = Bool.true ∧
 Pl.atomRight x.snd = Bool.true ∧
 x.snd.fst ≠ (1 : Int) ∧ x_3 ≤ x.snd.snd.snd.snd.fst.length ∧ x.snd.snd.snd.snd.fst.all (Pl.isNum x.fst) = (List.drop x_3 x.snd.snd.snd.snd.fst).all (Pl.isNum x.fst)) ∧
 ((0 : Nat) = (0 : Nat) ∧ (0 : Nat) = (0 : Nat) ∧ (0 : Int) = (↑x_3 : Int) ∧ True) ∧
 (Is (syms x.fst) (syms x.fst) ∧ True) ∧
 (x.snd.fst = x.snd.fst ∧
 x.snd.snd.fst.fst = x.snd.snd.fst.fst ∧
 Is (terms x.snd.snd.fst.snd) (terms x.snd.snd.fst.snd) ∧
 x.snd.snd.snd.fst.fst = x.snd.snd.snd.fst.fst ∧
 Is (terms x.snd.snd.snd.fst.snd) (terms x.snd.snd.snd.fst.snd) ∧
 Is (terms x.snd.snd.snd.snd.fst) (terms x.snd.snd.snd.snd.fst) ∧
 Is (ints x.snd.snd.snd.snd.snd.fst) (ints x.snd.snd.snd.snd.snd.fst) ∧
 x.snd.snd.snd.snd.snd.snd.fst = x.snd.snd.snd.snd.snd.snd.fst ∧ x.snd.snd.snd.snd.snd.snd.snd = x.snd.snd.snd.snd.snd.snd.snd ∧ True) ∧
 True) ∧
 ∀ (x_3 : Nat),
 Pl.sigOk x.fst = Bool.true ∧
 Pl.atomRight x.snd = Bool.true ∧
 x.snd.fst ≠ (1 : Int) ∧ x_3 ≤ x.snd.snd.snd.snd.fst.length ∧ x.snd.snd.snd.snd.fst.all (Pl.isNum x.fst) = (List.drop x_3 x.snd.snd.snd.snd.fst).all (Pl.isNum x.fst) →
 condP (Decidable.decide ((↑x_3 : Int) < (↑x.snd.snd.snd.snd.fst.length : Int)))
 (((0 : Int) ≤ (↑x_3 : Int) ∧ (↑x_3 : Int) < (↑x.snd.snd.snd.snd.fst.length : Int)) ∧
 x_3 < x.snd.snd.snd.snd.fst.length ∧
 Exists fun (x_4 : Pl.Sig × Pl.TP) =>
 ((Is (syms x.fst) (syms x_4.fst) ∧ True) ∧
 (Pl.Tree.val (x.snd.snd.snd.snd.fst.getD x_3 Pl.dT) = x_4.snd.fst ∧ Is (kidsT (x.snd.snd.snd.snd.fst.getD x_3 Pl.dT)) (terms x_4.snd.snd) ∧ True) ∧ True) ∧
 (Pl.sigOk x_4.fst = Bool.true ∧ SmG x_4.fst ∧ SmT (Pl.Tree.mk x_4.snd.fst x_4.snd.snd)) ∧
 condP ((Pl.sortT x_4.fst (Pl.Tree.mk x_4.snd.fst x_4.snd.snd)).getD (-1 : Int) != (1 : Int)) (Bool.false = Pl.atomOk x.fst x.snd)
 (Exists fun (x' : Nat) =>
 (Pl.sigOk x.fst = Bool.true ∧
 Pl.atomRight x.snd = Bool.true ∧
 x.snd.fst ≠ (1 : Int) ∧
 x' ≤ x.snd.snd.snd.snd.fst.length ∧ x.snd.snd.snd.snd.fst.all (Pl.isNum x.fst) = (List.drop x' x.snd.snd.snd.snd.fst).all (Pl.isNum x.fst)) ∧
 x.snd.snd.snd.snd.fst.length - x' < x.snd.snd.snd.snd.fst.length - x_3 ∧
 ((0 : Nat) = (0 : Nat) ∧ (0 : Nat) = (0 : Nat) ∧ IntKind.i64.wrap ((↑x_3 : Int) + (1 : Int)) = (↑x' : Int) ∧ True) ∧
 (Is (syms x.fst) (syms x.fst) ∧ True) ∧
 (x.snd.fst = x.snd.fst ∧
 x.snd.snd.fst.fst = x.snd.snd.fst.fst ∧
 Is (terms x.snd.snd.fst.snd) (terms x.snd.snd.fst.snd) ∧
 x.snd.snd.snd.fst.fst = x.snd.snd.snd.fst.fst ∧
 Is (terms x.snd.snd.snd.fst.snd) (terms x.snd.snd.snd.fst.snd) ∧
 Is (terms x.snd.snd.snd.snd.fst) (terms x.snd.snd.snd.snd.fst) ∧
 Is (ints x.snd.snd.snd.snd.snd.fst) (ints x.snd.snd.snd.snd.snd.fst) ∧
 x.snd.snd.snd.snd.snd.snd.fst = x.snd.snd.snd.snd.snd.snd.fst ∧ x.snd.snd.snd.snd.snd.snd.snd = x.snd.snd.snd.snd.snd.snd.snd ∧ True) ∧
 True))
 (Bool.true = Pl.atomOk x.fst x.snd))))) = Goal Try.prog [K_sSigOk, K_l6Right, K_lOf] (A_sAtomOk x.1 x.2) K_sAtomOk.1 K_sAtomOk.2 (x) := by kernel_rfl

theorem vc_isNumber (x : Pl.Sig × Pl.TP) : (Exists fun (x_1 : Pl.Sig × Pl.TP) =>
 ((Is (syms x.fst) (syms x_1.fst) ∧ True) ∧ (x.snd.fst = x_1.snd.fst ∧ Is (terms x.snd.snd) (terms x_1.snd.snd) ∧ True) ∧ True) ∧
 (SmG x_1.fst ∧ SmT (Pl.Tree.mk x_1.snd.fst x_1.snd.snd)) ∧
 condP (Pl.termSort x_1.fst (Pl.Tree.mk x_1.snd.fst x_1.snd.snd)).snd
 (((Pl.termSort x_1.fst (Pl.Tree.mk x_1.snd.fst x_1.snd.snd)).fst == (1 : Int)) = Pl.isNum x.fst (Pl.Tree.mk x.snd.fst x.snd.snd)) (Bool.false = Pl.isNum x.fst (Pl.Tree.mk x.snd.fst x.snd.snd))) = Goal Try.prog [K_iTermSort] ([]) K_isNumber.1 K_isNumber.2 (x) := by kernel_rfl

theorem vc_AtomOk1 (x : Pl.TP × Pl.Sig) : ((0 : Nat) < (1 : Nat) ∧
 Exists fun (x_1 : Pl.Sig × Pl.TP) =>
 ((Is (syms x.snd) (syms x_1.fst) ∧ True) ∧ (x.fst.fst = x_1.snd.fst ∧ Is (terms x.fst.snd) (terms x_1.snd.snd) ∧ True) ∧ True) ∧
 (SmG x_1.fst ∧ SmT (Pl.Tree.mk x_1.snd.fst x_1.snd.snd)) ∧ (!Pl.isNum x_1.fst (Pl.Tree.mk x_1.snd.fst x_1.snd.snd)) = !Pl.isNum x.snd (Pl.Tree.mk x.fst.fst x.fst.snd)) = Goal Try.prog [K_isNumber] ([]) K_AtomOk1.1 K_AtomOk1.2 (x) := by kernel_rfl

theorem vc_IndexTerm (x : List Pl.Tm × Pl.Sig) : ((Exists fun (x_1 : Nat) =>
 (x_1 ≤ x.fst.length ∧
 Pl.idx (fun (y : Pl.Tm) => !Pl.isNum x.snd y) x.fst =
 if Pl.idx (fun (y : Pl.Tm) => !Pl.isNum x.snd y) (List.drop x_1 x.fst) < (0 : Int) then (-1 : Int) else Pl.idx (fun (y : Pl.Tm) => !Pl.isNum x.snd y) (List.drop x_1 x.fst) + (↑x_1 : Int)) ∧
 (Is (terms x.fst) (terms x.fst) ∧ (Is (refs [syms x.snd]) (refs [syms x.snd]) ∧ True) ∧ (↑x.fst.length : Int) = (↑x.fst.length : Int) ∧ (0 : Int) = (↑x_1 : Int) ∧ True) ∧
 True) ∧
 ∀ (x_1 : Nat),
 (x_1 ≤ x.fst.length ∧
 Pl.idx (fun (y : Pl.Tm) => !Pl.isNum x.snd y) x.fst =
 if Pl.idx (fun (y : Pl.Tm) => !Pl.isNum x.snd y) (List.drop x_1 x.fst) < (0 : Int) then (-1 : Int) else Pl.idx (fun (y : Pl.Tm) => !Pl.isNum x.snd y) (List.drop x_1 x.fst) + (↑x_1 : Int)) →
 condP (Decidable.decide ((↑x_1 : Int) < (↑x.fst.length : Int)))
 (((0 : Int) ≤ (↑x_1 : Int) ∧ (↑x_1 : Int) < (↑x.fst.length : Int)) ∧
 x_1 < x.fst.length ∧
 Exists fun (x_2 : Pl.TP × Pl.Sig) =>
 ((Pl.Tree.val (x.fst.getD x_1 Pl.dT) = x_2.fst.fst ∧ Is (kidsT (x.fst.getD x_1 Pl.dT)) (terms x_2.fst.snd) ∧ True) ∧
 Is (refs [syms x.snd]) (refs [syms x_2.snd]) ∧ True) ∧
 (SmG x_2.snd ∧ SmT (Pl.Tree.mk x_2.fst.fst x_2.fst.snd)) ∧
 condP (!Pl.isNum x_2.snd (Pl.Tree.mk x_2.fst.fst x_2.fst.snd)) ((↑x_1 : Int) = Pl.idx (fun (y : Pl.Tm) => !Pl.isNum x.snd y) x.fst)
 (Exists fun (x' : Nat) =>
 (x' ≤ x.fst.length ∧
 Pl.idx (fun (y : Pl.Tm) => !Pl.isNum x.snd y) x.fst =
 if Pl.idx (fun (y : Pl.Tm) => !Pl.isNum x.snd y) (List.drop x' x.fst) < (0 : Int) then (-1 : Int)
 else Pl.idx (fun (y : Pl.Tm) => !Pl.isNum x.snd y) (List.drop x' x.fst) + (↑x' : Int)) ∧
 x.fst.length - x' < x.fst.length - x_1 ∧
 (Is (terms x.fst) (terms x.fst) ∧
 (Is (refs [syms x.snd]) (refs [syms x.snd]) ∧ True) ∧
 (↑x.fst.length : Int) = (↑x.fst.length : Int) ∧ IntKind.i64.wrap ((↑x_1 : Int) + (1 : Int)) = (↑x' : Int) ∧ True) ∧
 True))
 ((-1 : Int) = Pl.idx (fun (y : Pl.Tm) => !Pl.isNum x.snd y) x.fst)) = Goal Try.prog [K_AtomOk1] (A_IndexTerm x.1 x.2) K_IndexTerm.1 K_IndexTerm.2 (x) := by kernel_rfl

theorem vc_ContainsTerm (x : List Pl.Tm × Pl.Sig) : (Exists fun (x_1 : List Pl.Tm × Pl.Sig) =>
 (Is (terms x.fst) (terms x_1.fst) ∧ (Is (refs [syms x.snd]) (refs [syms x_1.snd]) ∧ True) ∧ True) ∧
 (SmTs x_1.fst ∧ SmG x_1.snd) ∧ Decidable.decide (Pl.idx (fun (y : Pl.Tm) => !Pl.isNum x_1.snd y) x_1.fst ≥ (0 : Int)) = x.fst.any fun (y : Pl.Tm) => !Pl.isNum x.snd y) = Goal Try.prog [K_IndexTerm] ([]) K_ContainsTerm.1 K_ContainsTerm.2 (x) := by kernel_rfl

theorem vc_Eqsorted (x : Pl.TP × Pl.TP × Pl.Sig) : (Exists fun (x_1 : Pl.Sig × Pl.TP) =>
 ((Is (syms x.snd.snd) (syms x_1.fst) ∧ True) ∧ (x.fst.fst = x_1.snd.fst ∧ Is (terms x.fst.snd) (terms x_1.snd.snd) ∧ True) ∧ True) ∧
 (SmG x_1.fst ∧ SmT (Pl.Tree.mk x_1.snd.fst x_1.snd.snd)) ∧
 Exists fun (x_2 : Pl.Sig × Pl.TP) =>
 ((Is (syms x.snd.snd) (syms x_2.fst) ∧ True) ∧ (x.snd.fst.fst = x_2.snd.fst ∧ Is (terms x.snd.fst.snd) (terms x_2.snd.snd) ∧ True) ∧ True) ∧
 (SmG x_2.fst ∧ SmT (Pl.Tree.mk x_2.snd.fst x_2.snd.snd)) ∧
 condP (Pl.termSort x_1.fst (Pl.Tree.mk x_1.snd.fst x_1.snd.snd)).snd
 (condP (Pl.termSort x_2.fst (Pl.Tree.mk x_2.snd.fst x_2.snd.snd)).snd
 (((Pl.termSort x_1.fst (Pl.Tree.mk x_1.snd.fst x_1.snd.snd)).fst == (Pl.termSort x_2.fst (Pl.Tree.mk x_2.snd.fst x_2.snd.snd)).fst) =
 Pl.eqSorted x.snd.snd (Pl.Tree.mk x.fst.fst x.fst.snd) (Pl.Tree.mk x.snd.fst.fst x.snd.fst.snd))
 (Bool.false = Pl.eqSorted x.snd.snd (Pl.Tree.mk x.fst.fst x.fst.snd) (Pl.Tree.mk x.snd.fst.fst x.snd.fst.snd)))
 (Bool.false = Pl.eqSorted x.snd.snd (Pl.Tree.mk x.fst.fst x.fst.snd) (Pl.Tree.mk x.snd.fst.fst x.snd.fst.snd))) = Goal Try.prog [K_iTermSort] ([]) K_Eqsorted.1 K_Eqsorted.2 (x) := by kernel_rfl

theorem vc_iAtomOk (x : Pl.Sig × Pl.Atm) : (Exists fun (x_1 : Pl.Sig) =>
 ((Is (syms x.fst) (syms x_1) ∧ True) ∧ True) ∧
 SmG x_1 ∧
 condP (!Pl.sigOk x_1) (Bool.false = Pl.atomOk x.fst x.snd)
 (Exists fun (x_2 : Pl.Atm) =>
 ((x.snd.fst = x_2.fst ∧
 x.snd.snd.fst.fst = x_2.snd.fst.fst ∧
 Is (terms x.snd.snd.fst.snd) (terms x_2.snd.fst.snd) ∧
 x.snd.snd.snd.fst.fst = x_2.snd.snd.fst.fst ∧
 Is (terms x.snd.snd.snd.fst.snd) (terms x_2.snd.snd.fst.snd) ∧
 Is (terms x.snd.snd.snd.snd.fst) (terms x_2.snd.snd.snd.fst) ∧
 Is (ints x.snd.snd.snd.snd.snd.fst) (ints x_2.snd.snd.snd.snd.fst) ∧
 x.snd.snd.snd.snd.snd.snd.fst = x_2.snd.snd.snd.snd.snd.fst ∧ x.snd.snd.snd.snd.snd.snd.snd = x_2.snd.snd.snd.snd.snd.snd ∧ True) ∧
 True) ∧
 SmA x_2 ∧
 condP (!Pl.atomRight x_2) (Bool.false = Pl.atomOk x.fst x.snd)
 (condP (x.snd.fst == (1 : Int))
 (Exists fun (x_3 : Pl.TP × Pl.TP × Pl.Sig) =>
 ((x.snd.snd.fst.fst = x_3.fst.fst ∧
 Is (terms x.snd.snd.fst.snd) (terms x_3.fst.snd) ∧
 x.snd.snd.snd.fst.fst = x_3.snd.fst.fst ∧ Is (terms x.snd.snd.snd.fst.snd) (terms x_3.snd.fst.snd) ∧ True) ∧
 (Is (syms x.fst) (syms x_3.snd.snd) ∧ True) ∧ True) ∧
 (SmT (Pl.Tree.mk x_3.fst.fst x_3.fst.snd) ∧ SmT (Pl.Tree.mk x_3.snd.fst.fst x_3.snd.fst.snd) ∧ SmG x_3.snd.snd) ∧
 Pl.eqSorted x_3.snd.snd (Pl.Tree.mk x_3.fst.fst x_3.fst.snd) (Pl.Tree.mk x_3.snd.fst.fst x_3.snd.fst.snd) = Pl.atomOk x.fst x.snd)
 (Exists fun (x_3 : List Pl.Tm × Pl.Sig) =>
 (Is (terms x.snd.snd.snd.snd.fst) (terms x_3.fst) ∧ (Is (refs [syms x.fst]) (refs [syms x_3.snd]) ∧ True) ∧ True) ∧
 (SmTs x_3.fst ∧ SmG x_3.snd) ∧ (!x_3.fst.any fun (y : Pl.Tm) => !Pl.isNum x_3.snd y) = Pl.atomOk x.fst x.snd)))) = Goal Try.prog [K_iSigOk, K_Atomok, K_Eqsorted, K_ContainsTerm] ([]) K_iAtomOk.1 K_iAtomOk.2 (x) := by kernel_rfl

end Cg

/-
  What is left to show of each function's code, printed by a program: Mtm. No condition.
-/
set_option maxRecDepth 100000
set_option linter.unusedVariables false
namespace Cg
open Go Go.Proofs
end Cg

/-
  The codes' contracts: the values of terms. No condition.
-/
set_option linter.unusedVariables false
set_option linter.unusedSimpArgs false
set_option maxRecDepth 100000
set_option maxHeartbeats 1000000
namespace Pl
open Go Cg
theorem take_getD {α : Type} (d : α) {l : List α} {i : Nat} (h : i < l.length) : l.take (i + 1) = l.take i ++ [l.getD i d] := by
  rw [List.take_succ_eq_append_getElem h]; simp [h]
theorem bl_trans : ∀ {x y z : List UInt8}, Op.bytesLess x y = true → Op.bytesLess y z = true → Op.bytesLess x z = true
  | [], [], _, h, _ => by cases h
  | [], _ :: _, [], _, h => by cases h
  | [], _ :: _, _ :: _, _, _ => rfl
  | _ :: _, [], _, h, _ => by cases h
  | _ :: _, _ :: _, [], _, h => by cases h
  | a :: x, b :: y, c :: z, h, k => by
    simp only [Op.bytesLess, Bool.or_eq_true, decide_eq_true_eq, Bool.and_eq_true, beq_iff_eq, UInt8.lt_iff_toNat_lt] at h k ⊢
    rcases h with h | ⟨h, h1⟩ <;> rcases k with k | ⟨k, k1⟩
    · exact .inl (by omega)
    · subst k; exact .inl h
    · subst h; exact .inl k
    · subst h; subst k; exact .inr ⟨rfl, bl_trans h1 k1⟩
theorem sLess_trans {a b c : ByteArray} (h1 : sLess a b = true) (h2 : sLess b c = true) : sLess a c = true := bl_trans h1 h2
end Pl
namespace Cg
open Go Go.Proofs Pl

end Cg

/-
  The library functions' contracts at this program, laid by the kit's own programs (lay-shelf, lay-plain). No condition.
-/
namespace Go.Proofs
open Go.Shelf
def Try.lays156_ren : Go.Shelf.Ren := ⟨fun | 156 => 100 | 165 => 111 | 166 => 112 | 169 => 113 | 240 => 114 | 241 => 115 | 276 => 116 | 277 => 117 | n => n, fun | 31 => 101 | 9 => 9 | 3 => 3 | 4 => 4 | 0 => 0 | 20 => 20 | 72 => 130 | 76 => 134 | 70 => 128 | 37 => 22 | 75 => 133 | 127 => 137 | 164 => 138 | 5 => 5 | 80 => 136 | n => n, fun | n => n⟩
theorem Try.lays156 : Go.Proofs.Lays.n156 Try.prog Try.lays156_ren := {
  mixed := by kernel_rfl
  f156 := Try.func100.trans (congrArg some (by kernel_rfl))
  f165 := Try.func111.trans (congrArg some (by kernel_rfl))
  f166 := Try.func112.trans (congrArg some (by kernel_rfl))
  f169 := Try.func113.trans (congrArg some (by kernel_rfl))
  f240 := Try.func114.trans (congrArg some (by kernel_rfl))
  f241 := Try.func115.trans (congrArg some (by kernel_rfl))
  f276 := Try.func116.trans (congrArg some (by kernel_rfl))
  f277 := Try.func117.trans (congrArg some (by kernel_rfl))
  t0 := Try.underlying0
  a0 := Try.isAgg0
  z0 := Try.sizeOf0
  v0 := Try.zeroValue0
  t3 := Try.underlying3
  a3 := Try.isAgg3
  z3 := Try.sizeOf3
  v3 := Try.zeroValue3
  t4 := Try.underlying4
  a4 := Try.isAgg4
  z4 := Try.sizeOf4
  v4 := Try.zeroValue4
  t9 := Try.underlying9
  a9 := Try.isAgg9
  z9 := Try.sizeOf9
  v9 := Try.zeroValue9
  t20 := Try.underlying20
  a20 := Try.isAgg20
  z20 := Try.sizeOf20
  v20 := Try.zeroValue20
  t31 := Try.underlying101
  a31 := Try.isAgg101
  z31 := Try.sizeOf101
  v31 := Try.zeroValue101
  t37 := Try.underlying22
  a37 := Try.isAgg22
  z37 := Try.sizeOf22
  v37 := Try.zeroValue22
  t70 := Try.underlying128
  a70 := Try.isAgg128
  z70 := Try.sizeOf128
  v70 := Try.zeroValue128
  t72 := Try.underlying130
  a72 := Try.isAgg130
  z72 := Try.sizeOf130
  v72 := Try.zeroValue130
  t75 := Try.underlying133
  a75 := Try.isAgg133
  z75 := Try.sizeOf133
  v75 := Try.zeroValue133
  t76 := Try.underlying134
  a76 := Try.isAgg134
  z76 := Try.sizeOf134
  v76 := Try.zeroValue134
  t127 := Try.underlying137
  a127 := Try.isAgg137
  z127 := Try.sizeOf137
  v127 := Try.zeroValue137
  t164 := Try.underlying138
  a164 := Try.isAgg138
  z164 := Try.sizeOf138
  v164 := Try.zeroValue138 }
theorem Try.Builder_Extra_156 : Builder.Extra Try.prog Try.lays156_ren := {
  sizeBuilder := by kernel_rfl
  liesBuilder := by kernel_rfl
  t5 := Try.underlying5
  a5 := Try.isAgg5
  z5 := Try.sizeOf5
  v5 := Try.zeroValue5
  infoByte := by kernel_rfl
  cellsByte := by kernel_rfl
  sizeByte := by kernel_rfl
  neB5 := by decide }
open Go.RowKit in
theorem Try.strings_Join_none (a : Option Addr) (c : Nat) (sep : ByteArray) (w : World) :
    Calls Try.prog 100 #[.slice a 0 c, .string sep] w fun e w' => e = .returned (.string ⟨#[]⟩) ∧ w' = w := Any.strings_Join_none Try.lays156 Try.Builder_Extra_156 a c sep w
open Go.RowKit in
theorem Try.strings_Join (bk o c : Nat) (xs : List ByteArray) (sep : ByteArray) (w : World) (hcells : ∀ (j : Nat) x, xs[j]? = some x → w.cell? ⟨bk, o + j, none⟩ = some (.string x)) (hbk : bk < w.heap.size) (hN : xs.length ≤ 140737488355328) (hcap : xs.length ≤ c) (hlen : (Lib.join (xs.map (·.data.toList)) sep.data.toList).length ≤ 140737488355328) :
    Calls Try.prog 100 #[.slice (some ⟨bk, o, none⟩) xs.length c, .string sep] w fun e w' => e = .returned (.string ⟨(Lib.join (xs.map (·.data.toList)) sep.data.toList).toArray⟩) ∧ Below w.heap.size w w' := Any.strings_Join Try.lays156 Try.Builder_Extra_156 bk o c xs sep w hcells hbk hN hcap hlen
end Go.Proofs

/-
  The library's contracts: joined texts. No condition.
-/
set_option linter.unusedVariables false
set_option linter.unusedSimpArgs false
namespace Pl
open Go
theorem interL_eq (sep : List UInt8) : ∀ xs : List (List UInt8), Go.Lib.join xs sep = interL sep xs
  | [] => rfl
  | [x] => by simp [Go.Lib.join, List.intercalate, interL]
  | x :: y :: r => by
    have := interL_eq sep (y :: r)
    simp only [Go.Lib.join, List.intercalate, List.intersperse_cons_cons, List.flatten_cons] at this ⊢
    rw [interL, ← this]; simp
end Pl
namespace Cg
open Go Go.Proofs Pl
theorem Ext.ofBelow {w w' : World} (h : Go.RowKit.Below w.heap.size w w') : Ext w w' := ⟨h.os, h.tape, h.output, h.size, h.block⟩
theorem k_Join : SoundC Try.prog K_Join.1 K_Join.2 := ⟨callable_of (by kernel_rfl), fun x hx S w vals hin hrel => by
  obtain ⟨xs, sep⟩ := x
  obtain ⟨h1, h2⟩ : xs.length ≤ 140737488355328 ∧ (joinS xs sep).size ≤ 140737488355328 := hx
  obtain ⟨y0, r0, rfl, ha, y1, r1, rfl, hb, hc⟩ := hrel
  cases hc
  obtain ⟨a, cap, rfl, hcap, ha⟩ := ha
  have hb : y1 = .string sep := hb
  subst hb
  have hj : (⟨(Go.Lib.join (xs.map (·.data.toList)) sep.data.toList).toArray⟩ : ByteArray) = joinS xs sep := by
    rw [interL_eq]; rfl
  rcases ha with h0 | ⟨b, off, rfl, hS, c, T, fr, hheap, hcells⟩
  · have e : xs = [] := List.length_eq_zero_iff.1 h0
    subst e
    exact (Try.strings_Join_none a cap sep w).mono fun e w' ⟨he, hw⟩ => by
      subst hw
      exact ⟨_, S, he, Ext.refl _, fun _ h => h, fun _ h => .inl h, hin, rfl⟩
  · refine (Try.strings_Join b off cap xs sep w (fun j x hj => ?_) (hin b hS) h1 hcap (by
      have : (joinS xs sep).size = (Go.Lib.join (xs.map (·.data.toList)) sep.data.toList).length := by rw [← hj]; simp [ByteArray.size]
      omega)).mono fun e w' ⟨he, hw⟩ => ?_
    · obtain ⟨hlt, e⟩ := List.getElem?_eq_some_iff.1 hj
      obtain ⟨y, h3, h4⟩ := hcells j hlt 0 (by decide)
      have h4' : RelI S w (.v (.string (xs.getD j ByteArray.empty))) y := h4
      rw [RelI] at h4'
      have h5 : y = .string (xs.getD j ByteArray.empty) := h4'.1
      rw [h5] at h3
      simp only [Nat.mul_one, Nat.add_zero] at h3
      simp only [World.cell?, hheap, h3]
      simp [← e, hlt]
    · rw [hj] at he
      exact ⟨_, S, he, Ext.ofBelow hw, fun _ h => h, fun _ h => .inl h, fun b hb => Nat.lt_of_lt_of_le (hin b hb) hw.size, rfl⟩⟩
end Cg

/-
  The codes' contracts: valid atoms. No condition.
-/
set_option linter.unusedVariables false
set_option linter.unusedSimpArgs false
set_option maxRecDepth 100000
set_option maxHeartbeats 1000000
namespace Pl
open Go Cg
theorem textBs_map : ∀ l : List Tm, textBs l = l.map textB
  | [] => rfl
  | t :: ts => by simp only [textBs, List.map_cons, textBs_map ts]
theorem interL_snoc {sep t : List UInt8} : ∀ {ts : List (List UInt8)}, ts ≠ [] → interL sep (ts ++ [t]) = interL sep ts ++ sep ++ t
  | [], h => absurd rfl h
  | [x], _ => by simp [interL]
  | x :: y :: r, _ => by
    have := interL_snoc (sep := sep) (t := t) (ts := y :: r) (by simp)
    simp only [List.cons_append] at this ⊢
    simp only [interL, this, List.append_assoc]
theorem interL_len (sep : List UInt8) (h1 : sep.length = 1) : ∀ ts : List (List UInt8), (interL sep ts).length ≤ sumN List.length ts + ts.length - 1
  | [] => by simp [interL]
  | [x] => by simp [interL, sumN]
  | x :: y :: r => by
    have := interL_len sep h1 (y :: r)
    simp only [interL, List.length_append, sumN, List.length_cons] at this ⊢
    omega
theorem textB_mk (v : ByteArray) (ks : List Tm) : textB (.mk v ks) = if ks = [] then bl' v else spellB (bl' v) (textBs ks) ++ [41] := by
  rw [textB]
  cases ks with
  | nil => rfl
  | cons k r => simp [spellB, textBs]
theorem spellB_step {v : List UInt8} {l : List Tm} {k : Nat} (h : k < l.length) : spellB v (textBs (l.take (k + 1))) = (spellB v (textBs (l.take k)) ++ [if k = 0 then 40 else 44]) ++ textB (l.getD k dT) := by
  rw [take_getD dT h, textBs_map, textBs_map, List.map_append]
  unfold spellB
  by_cases h0 : k = 0
  · subst h0; simp [interL]
  · have hne : (l.take k).map textB ≠ [] := by
      intro e
      have := congrArg List.length e
      rw [List.length_map, List.length_take, List.length_nil] at this
      omega
    have h2 : ((l.take k).map textB).isEmpty = false := by cases hh : (l.take k).map textB with
      | nil => exact absurd hh hne
      | cons _ _ => rfl
    have h3 : ((l.take k).map textB ++ [l.getD k dT].map textB).isEmpty = false := by cases hh : (l.take k).map textB with
      | nil => exact absurd hh hne
      | cons _ _ => rfl
    rw [h2, h3, if_neg h0]
    simp only [List.map_cons, List.map_nil, Bool.false_eq_true, if_false]
    rw [interL_snoc hne]; simp only [List.append_assoc]
mutual
theorem textB_len : ∀ t : Tm, (textB t).length ≤ 2 * costT t
  | .mk v ks => by
    have h := textBs_len ks
    have hl := interL_len [44] rfl (textBs ks)
    have hm : (textBs ks).length = ks.length := by rw [textBs_map]; simp
    rw [textB_mk]
    rw [costT]
    have e : (bl' v).length = v.size := rfl
    by_cases h0 : ks = []
    · rw [if_pos h0]; omega
    · rw [if_neg h0]
      have hp : 0 < ks.length := by cases ks with
        | nil => exact absurd rfl h0
        | cons _ _ => simp
      have hq : (textBs ks).isEmpty = false := by cases hh : textBs ks with
        | nil => rw [hh] at hm; simp at hm; omega
        | cons _ _ => rfl
      unfold spellB
      rw [hq]
      simp only [Bool.false_eq_true, if_false, List.length_append, List.length_singleton]
      omega
theorem textBs_len : ∀ l : List Tm, sumN List.length (textBs l) ≤ 2 * costTs l
  | [] => by simp [textBs, sumN]
  | t :: ts => by
    have h1 := textB_len t
    have h2 := textBs_len ts
    simp only [textBs, sumN, costTs]
    omega
end
theorem spellB_len (v : List UInt8) (l : List Tm) (k : Nat) : (spellB v (textBs (l.take k))).length ≤ v.length + 2 * costTs l + l.length + 1 := by
  have h := textBs_len l
  have e : textBs (l.take k) = (textBs l).take k := by rw [textBs_map, textBs_map, List.map_take]
  have hl := interL_len [44] rfl (textBs (l.take k))
  have hs := sumN_take_le List.length (textBs l) k
  have hm : (textBs (l.take k)).length ≤ l.length := by rw [textBs_map]; simp; omega
  rw [e] at hl hm ⊢
  unfold spellB
  split
  · omega
  · simp only [List.length_append, List.length_singleton]; omega
theorem textL_join (l : List Tm) : joinS (textL l) ⟨#[44]⟩ = mkB (interL [44] (textBs l)) := by
  unfold joinS textL
  rw [textBs_map, List.map_map]
  rfl
@[simp] theorem mkB_list (l : List UInt8) : (mkB l).data.toList = l := rfl
@[simp] theorem mkB_size (l : List UInt8) : (mkB l).size = l.length := rfl
end Pl
namespace Cg
open Go Go.Proofs Pl
theorem k_l4Text (n : Nat) : SoundC Try.prog (K_l4Text n).1 (K_l4Text n).2 := by
  induction n with
  | zero => exact sound_of hm CtxOK.nil (fun _ => []) (by kernel_rfl) fun x h => absurd h.2 (Nat.not_lt_zero _)
  | succ n ih => exact sound_of hm (CtxOK.nil.and (K := K_l4Text n) ih) (fun x => A_l4Text x.1 x.2) (by kernel_rfl) fun (x : TP) hl => (by
      have ht : SmT (.mk x.1 x.2) := hl.1
      have hn : manyL x.2 < n + 1 := hl.2
      clear hl
      rw [← vc_l4Text n x]
      obtain ⟨a, b⟩ := x
      dsimp only at *
      simp [-List.getD_eq_getElem?_getD, -List.mem_cons, -Bool.forall_bool, -Bool.exists_bool, and_assoc, peta, tl_inj, ex_1, ex_2, ex_3, ex_4, ex_5, ex_6, ex_7, ex_8, ex_9, ey_2, ey_3, ey_4, ey_5, ey_6, ey_7, ey_8, ey_9]
      have k1 := (SmT.kids ht).len
      have hc : a.size + b.length + costTs b ≤ 1048576 := by have h : costT (.mk a b) ≤ 1048576 := ht; rw [costT] at h; exact h
      have hb : (bl' a).length = a.size := rfl
      have hsz : ∀ k, (spell a (b.take k)).size ≤ 2097153 * 2 := fun k => by
        have := spellB_len (bl' a) b k
        show (spellB (bl' a) (textBs (b.take k))).length ≤ _
        omega
      have ht1 : ∀ t ∈ b, (textT t).size ≤ 2097152 := fun t h => by
        have h1 := textB_len t
        have h2 : costT t ≤ 1048576 := (SmT.kids ht).mem h
        show (textB t).length ≤ _
        omega
      have key : ∀ (k : Nat) (c : UInt8), k < b.length → c = (if k = 0 then 40 else 44) →
          ({ data := { toList := (spell a (List.take k b)).data.toList ++ c :: (textT (b.getD k dT)).data.toList } } : ByteArray) = spell a (b.take (k + 1)) := fun k c hk hc => by
        show mkB _ = mkB _
        rw [spellB_step hk, ← hc]
        congr 1
        show spellB (bl' a) (textBs (b.take k)) ++ c :: textB (b.getD k dT) = _
        simp
      have sz : ∀ (l : List UInt8) (c : UInt8), (ByteArray.mk ⟨l ++ [c]⟩).size = l.length + 1 := fun l c => by
        show (l ++ [c]).length = _
        simp
      refine ⟨⟨0, by simp, by show a = mkB _; rfl, rfl⟩, fun k hk => ⟨fun hlt => ⟨fun h0 => ?_, fun h0 => ?_⟩, fun hge => ⟨fun h0 => ?_, fun h0 => ?_⟩⟩⟩
      · have h1 := hsz k
        have h2 := ht1 _ (getD_mem dT hlt)
        refine ⟨by omega, hlt, (SmT.kids ht).mem (getD_mem dT hlt), by have := manyL_kids (getD_mem dT hlt); omega, ?_, k + 1, hlt, by omega, key k 40 hlt (by rw [if_pos h0]), wrap_small (by omega) (by omega)⟩
        rw [sz]
        have h3 : (spell a (b.take k)).data.toList.length = (spell a (b.take k)).size := rfl
        omega
      · have h1 := hsz k
        have h2 := ht1 _ (getD_mem dT hlt)
        refine ⟨by omega, hlt, (SmT.kids ht).mem (getD_mem dT hlt), by have := manyL_kids (getD_mem dT hlt); omega, ?_, k + 1, hlt, by omega, key k 44 hlt (by rw [if_neg h0]), wrap_small (by omega) (by omega)⟩
        rw [sz]
        have h3 : (spell a (b.take k)).data.toList.length = (spell a (b.take k)).size := rfl
        omega
      · have h1 := hsz k
        refine ⟨by omega, ?_⟩
        show mkB _ = mkB _
        rw [textB_mk, if_neg (by intro e; rw [e] at h0; simp at h0), List.take_of_length_le (by omega)]
        rfl
      · show mkB _ = mkB _
        rw [textB_mk, if_pos h0, h0, List.take_nil]
        rfl)
theorem k_lText : SoundC Try.prog K_lText.1 K_lText.2 := SoundC.fam (fun x => manyL x.2) fun n => k_l4Text n
theorem k_termText (n : Nat) : SoundC Try.prog (K_termText n).1 (K_termText n).2 := by
  induction n with
  | zero => exact sound_of hm CtxOK.nil (fun _ => []) (by kernel_rfl) fun x h => absurd h.2 (Nat.not_lt_zero _)
  | succ n ih => exact sound_of hm ((CtxOK.nil.and k_Join).and (K := K_termText n) ih) (fun x => A_termText x.1 x.2) (by kernel_rfl) fun (x : TP) hl => (by
      have ht : SmT (.mk x.1 x.2) := hl.1
      have hn : manyL x.2 < n + 1 := hl.2
      clear hl
      rw [← vc_termText n x]
      obtain ⟨a, b⟩ := x
      dsimp only at *
      simp [-List.getD_eq_getElem?_getD, -List.mem_cons, -Bool.forall_bool, -Bool.exists_bool, and_assoc, peta, tl_inj, ex_1, ex_2, ex_3, ex_4, ex_5, ex_6, ex_7, ex_8, ex_9, ey_2, ey_3, ey_4, ey_5, ey_6, ey_7, ey_8, ey_9]
      have k1 := (SmT.kids ht).len
      have hc : a.size + b.length + costTs b ≤ 1048576 := by have h : costT (.mk a b) ≤ 1048576 := ht; rw [costT] at h; exact h
      have hll : ∀ k, (textL (b.take k)).length ≤ b.length := fun k => by unfold textL; simp; omega
      refine ⟨fun h0 => ?_, fun h0 => ⟨⟨0, by simp, h0, rfl, rfl, rfl⟩, fun k hk _ => ⟨fun hlt => ?_, fun hge => ?_⟩⟩⟩
      · show a = mkB _
        rw [textB_mk, if_pos h0]; rfl
      · have hs1 : textL (b.take (k + 1)) = textL (b.take k) ++ [textT (b.getD k dT)] := by
          unfold textL; rw [take_getD dT hlt]; simp
        have h1 := hll k
        refine ⟨hlt, (SmT.kids ht).mem (getD_mem dT hlt), by have := manyL_kids (getD_mem dT hlt); omega, by omega, k + 1, hlt, h0, by omega, by rw [hs1]; simp, wrap_small (by omega) (by omega), ?_⟩
        rw [hs1]; exact strs_push
      · rw [List.take_of_length_le (by omega), textL_join]
        have hb : (bl' a).length = a.size := rfl
        have hsum := textBs_len b
        have hl := interL_len [44] rfl (textBs b)
        have hm : (textBs b).length = b.length := by rw [textBs_map]; simp
        have hlb : (textL b).length = b.length := by unfold textL; simp
        have sz : ∀ l : List UInt8, (ByteArray.mk ⟨l⟩).size = l.length := fun l => rfl
        have ha : a.data.toList.length = a.size := rfl
        simp only [mkB_list, mkB_size, sz, List.length_append, List.length_cons, List.length_nil]
        refine ⟨by show (a.size : Int) + 1 ≤ _; omega, by omega, by omega, by omega, by omega, ?_⟩
        show mkB _ = mkB _
        rw [textB_mk, if_neg h0]
        have hq : (textBs b).isEmpty = false := by cases hh : textBs b with
          | nil => rw [hh] at hm; simp at hm; exact absurd (List.length_eq_zero_iff.1 hm.symm) h0
          | cons _ _ => rfl
        unfold spellB
        rw [hq]
        simp [bl'])
theorem k_tText : SoundC Try.prog K_tText.1 K_tText.2 := SoundC.fam (fun x => manyL x.2) fun n => k_termText n
theorem k_l6None : SoundC Try.prog K_l6None.1 K_l6None.2 := sound_of hm CtxOK.nil (fun _ => []) (by kernel_rfl) fun (x : TP) hl => (by
  rw [← vc_l6None x]
  obtain ⟨a, b⟩ := x
  dsimp only at *
  simp [-List.getD_eq_getElem?_getD, -List.mem_cons, -Bool.forall_bool, -Bool.exists_bool, and_assoc, peta, tl_inj, ex_1, ex_2, ex_3, ex_4, ex_5, ex_6, ex_7, ex_8, ex_9, ey_2, ey_3, ey_4, ey_5, ey_6, ey_7, ey_8, ey_9]
  unfold noneT
  have e : a.toList = [] ↔ a = ByteArray.empty := by
    rw [← tl_inj (b := ByteArray.empty)]
    have : ByteArray.empty.toList = [] := by rw [ByteArray.toList_eq]; rfl
    rw [this]
  refine ⟨fun h => ?_, fun h => ?_⟩
  · rw [decide_eq_true (e.1 h), Bool.true_and, Bool.beq_eq_decide_eq]
    congr 1
    simp only [eq_iff_iff, List.length_eq_zero_iff, Int.natCast_eq_zero]
  · rw [decide_eq_false (fun h2 => h (e.2 h2))]; rfl)
theorem k_isNone : SoundC Try.prog K_isNone.1 K_isNone.2 := sound_of hm CtxOK.nil (fun _ => []) (by kernel_rfl) fun (x : TP) hl => (by
  rw [← vc_isNone x]
  obtain ⟨a, b⟩ := x
  dsimp only at *
  simp [-List.getD_eq_getElem?_getD, -List.mem_cons, -Bool.forall_bool, -Bool.exists_bool, and_assoc, peta, tl_inj, ex_1, ex_2, ex_3, ex_4, ex_5, ex_6, ex_7, ex_8, ex_9, ey_2, ey_3, ey_4, ey_5, ey_6, ey_7, ey_8, ey_9]
  unfold noneT
  have e : a.toList = [] ↔ a = ByteArray.empty := by
    rw [← tl_inj (b := ByteArray.empty)]
    have : ByteArray.empty.toList = [] := by rw [ByteArray.toList_eq]; rfl
    rw [this]
  refine ⟨fun h => ?_, fun h => ?_⟩
  · rw [decide_eq_true (e.1 h), Bool.true_and, Bool.beq_eq_decide_eq]
    congr 1
    simp only [eq_iff_iff, List.length_eq_zero_iff, Int.natCast_eq_zero]
  · rw [decide_eq_false (fun h2 => h (e.2 h2))]; rfl)
theorem num_step {nums : List Tm} {times : List Int} {k : Nat} (h1 : k < nums.length) (h2 : k < times.length) (he : numOk none nums times = numOk (prevN nums k) (nums.drop k) (times.drop k)) :
    (right (nums.getD k dT) = false → numOk none nums times = false) ∧ (timeOk (times.getD k 0) = false → numOk none nums times = false) ∧ (above (prevN nums k) (nums.getD k dT) = false → numOk none nums times = false) ∧
    (right (nums.getD k dT) = true → timeOk (times.getD k 0) = true → above (prevN nums k) (nums.getD k dT) = true → numOk none nums times = numOk (prevN nums (k + 1)) (nums.drop (k + 1)) (times.drop (k + 1))) := by
  rw [drop_get dT h1, drop_get 0 h2] at he
  simp only [numOk] at he
  refine ⟨fun h => by rw [he, h]; rfl, fun h => by rw [he, h]; simp, fun h => by rw [he, h]; simp, fun a1 a2 a3 => ?_⟩
  rw [he, a1, a2, a3]
  simp [prevN, -List.getD_eq_getElem?_getD]
theorem num_end {p : Option Tm} {nums : List Tm} {times : List Int} {k : Nat} (h1 : nums.length ≤ k) : numOk p (nums.drop k) (times.drop k) = true := by
  rw [drop_end (by omega)]; cases times.drop k <;> rfl
theorem numOk_right : ∀ {nums : List Tm} {times : List Int} {p : Option Tm}, nums.length = times.length → numOk p nums times = true → ∀ t ∈ nums, right t = true
  | [], _, _, _, _, t, h => by cases h
  | x :: nums, [], _, hl, _, _, _ => by simp at hl
  | x :: nums, n :: times, p, hl, h, t, ht => by
    simp only [numOk, Bool.and_eq_true] at h
    rcases List.mem_cons.1 ht with e | e
    · subst e; exact h.1.1.1
    · exact numOk_right (by simpa using hl) h.2 t e
theorem head_iff (kind : Int) (a b : TP) (nums : List Tm) (times : List Int) (bound : Int) (strict : Bool) : sumHead (kind, a, b, nums, times, bound, strict) = true ↔ noneT a = true ∧ noneT b = true ∧ nums.length = times.length ∧ 1 ≤ nums.length ∧ nums.length ≤ 4 ∧ -1000 ≤ bound ∧ bound ≤ 1000 := by
  simp only [sumHead, Bool.and_eq_true, decide_eq_true_eq, and_assoc]
theorem above_prev {nums : List Tm} {k : Nat} (h : 0 < k) : above (prevN nums k) (nums.getD k dT) = Op.bytesLess (textT (nums.getD (k - 1) dT)).toList (textT (nums.getD k dT)).toList := by
  unfold prevN; rw [if_neg (by omega)]; rfl
theorem above_none {nums : List Tm} {k : Nat} (h : k = 0) : above (prevN nums k) (nums.getD k dT) = true := by
  unfold prevN; rw [if_pos h]; rfl
theorem timeOk_iff {n : Int} : timeOk n = true ↔ n ≠ 0 ∧ -50 ≤ n ∧ n ≤ 50 := by
  simp only [timeOk, Bool.and_eq_true, decide_eq_true_eq, and_assoc]
theorem timeOk_no {n : Int} (h : ¬ (n ≠ 0 ∧ -50 ≤ n ∧ n ≤ 50)) : timeOk n = false := by
  cases e : timeOk n with
  | false => rfl
  | true => exact absurd (timeOk_iff.1 e) h

theorem k_l6Sum : SoundC Try.prog K_l6Sum.1 K_l6Sum.2 := sound_of hm (((CtxOK.nil.and k_lText).and k_l4Right).and k_l6None) (fun x => A_l6Sum x) (by kernel_rfl) fun (x : Atm) hl => (by
  have hs : SmA x := hl
  clear hl
  rw [← vc_l6Sum x]
  obtain ⟨kind, ⟨a, b⟩, ⟨c, d⟩, nums, times, bound, strict⟩ := x
  dsimp only at *
  simp [-List.getD_eq_getElem?_getD, -List.mem_cons, -Bool.forall_bool, -Bool.exists_bool, and_assoc, peta, tl_inj, ex_1, ex_2, ex_3, ex_4, ex_5, ex_6, ex_7, ex_8, ex_9, ey_2, ey_3, ey_4, ey_5, ey_6, ey_7, ey_8, ey_9]
  obtain ⟨_, _, q3, q4⟩ : SmT (.mk a b) ∧ SmT (.mk c d) ∧ SmTs nums ∧ times.length ≤ 1048576 := SmA.parts hs
  have q5 := q3.len
  have hd := head_iff kind (a, b) (c, d) nums times bound strict
  generalize hX : ((kind, (a, b), (c, d), nums, times, bound, strict) : Atm) = X at *
  have eN : sumRight X = (sumHead X && numOk none nums times) := by subst hX; rfl
  clear hs
  have noH : (sumHead X = true → False) → sumRight X = false := fun h => by
    rw [eN]
    cases e : sumHead X with
    | false => rfl
    | true => exact (h e).elim
  have noN : numOk none nums times = false → sumRight X = false := fun h => by rw [eN, h]; simp
  refine ⟨fun g1 => noH fun h => (by rw [(hd.1 h).1] at g1; cases g1), fun g1 => ⟨fun g2 => noH fun h => (by rw [(hd.1 h).2.1] at g2; cases g2), fun g2 => ⟨fun g3 => noH fun h => (by have := hd.1 h; omega), fun g3 => ⟨fun g4 => noH fun h => (by have := hd.1 h; omega), fun g4 => ⟨fun g5 => noH fun h => (by have := hd.1 h; omega), fun g5 => ⟨fun g6 => noH fun h => (by have := hd.1 h; omega), fun g6 => ⟨fun g7 => noH fun h => (by have := hd.1 h; omega), fun g7 => ?_⟩⟩⟩⟩⟩⟩⟩
  have g3' : nums.length = times.length := by omega
  have hh : sumHead X = true := hd.2 ⟨g1, g2, by omega, by omega, by omega, g6, g7⟩
  refine ⟨hh, ⟨0, by simp, by simp [prevN], rfl⟩, fun k _ hk he => ⟨fun hlt => ?_, fun hge => ?_⟩⟩
  · obtain ⟨e1, e2, e3, e4⟩ := num_step hlt (by omega) he
    refine ⟨by omega, hlt, q3.mem (getD_mem dT hlt), fun h => noN (e1 h), fun r1 => ⟨fun h => noN (e2 (timeOk_no (by omega))), fun r2 => ⟨fun h => noN (e2 (timeOk_no (by omega))), fun r3 => ⟨fun h => noN (e2 (timeOk_no (by omega))), fun r4 => ⟨fun hp => ?_, fun hz => ⟨hh, k + 1, hlt, e4 r1 (timeOk_iff.2 ⟨r2, r3, r4⟩) (above_none hz), by omega, wrap_small (by omega) (by omega)⟩⟩⟩⟩⟩⟩
    rw [wrap_small (x := (k : Int) - 1) (by omega) (by omega)]
    have e : ((k : Int) - 1).toNat = k - 1 := by omega
    rw [e]
    have hab := above_prev (nums := nums) hp
    exact ⟨by omega, by omega, by omega, q3.mem (getD_mem dT (by omega)), hlt, q3.mem (getD_mem dT hlt), fun h => noN (e3 (by rw [hab]; exact h)), fun h => ⟨hh, k + 1, hlt, e4 r1 (timeOk_iff.2 ⟨r2, r3, r4⟩) (by rw [hab]; exact h), by omega, wrap_small (by omega) (by omega)⟩⟩
  · rw [eN, hh, he, num_end hge]; rfl)
theorem k_l6Right : SoundC Try.prog K_l6Right.1 K_l6Right.2 := sound_of hm ((CtxOK.nil.and k_l4Right).and k_l6Sum) (fun _ => []) (by kernel_rfl) fun (x : Atm) hl => (by
  have hs : SmA x := hl
  clear hl
  rw [← vc_l6Right x]
  obtain ⟨kind, ⟨a, b⟩, ⟨c, d⟩, nums, times, bound, strict⟩ := x
  dsimp only at *
  simp [-List.getD_eq_getElem?_getD, -List.mem_cons, -Bool.forall_bool, -Bool.exists_bool, and_assoc, peta, tl_inj, ex_1, ex_2, ex_3, ex_4, ex_5, ex_6, ex_7, ex_8, ex_9, ey_2, ey_3, ey_4, ey_5, ey_6, ey_7, ey_8, ey_9]
  obtain ⟨q1, q2, _, _⟩ := SmA.parts hs
  have e2 : kind = 2 → atomRight (kind, (a, b), (c, d), nums, times, bound, strict) = sumRight (kind, (a, b), (c, d), nums, times, bound, strict) := fun h => by unfold atomRight; rw [if_pos h]
  have e1 : ¬ kind = 2 → atomRight (kind, (a, b), (c, d), nums, times, bound, strict) = (decide (kind = 1) && (right (.mk a b) && right (.mk c d) && decide (nums = []) && decide (times = []) && decide (bound = 0) && !strict)) := fun h => by unfold atomRight; rw [if_neg h]; rfl
  refine ⟨fun h => ⟨hs, (e2 h).symm⟩, fun h => ⟨fun g => ⟨q1, fun g1 => ⟨q2, fun g2 => ⟨fun g3 => ⟨fun g4 => ⟨fun g5 => ?_, fun g5 => ?_⟩, fun g4 => ?_⟩, fun g3 => ?_⟩, fun g2 => ?_⟩, fun g1 => ?_⟩, fun g => ?_⟩⟩
  · rw [e1 h, g1, g2, decide_eq_true g, decide_eq_true g3, decide_eq_true g4, decide_eq_true g5]; simp
  · rw [e1 h, decide_eq_false g5]; simp
  · rw [e1 h, decide_eq_false g4]; simp
  · rw [e1 h, decide_eq_false g3]; simp
  · rw [e1 h, g2]; simp
  · rw [e1 h, g1]; simp
  · rw [e1 h, decide_eq_false g]; simp)
theorem k_Atomok : SoundC Try.prog K_Atomok.1 K_Atomok.2 := sound_of hm ((((CtxOK.nil.and k_tText).and k_within).and k_isNone).and k_isTerm) (fun x => A_Atomok x) (by kernel_rfl) fun (x : Atm) hl => (by
  have hs : SmA x := hl
  clear hl
  rw [← vc_Atomok x]
  obtain ⟨kind, ⟨a, b⟩, ⟨c, d⟩, nums, times, bound, strict⟩ := x
  dsimp only at *
  simp [-List.getD_eq_getElem?_getD, -List.mem_cons, -Bool.forall_bool, -Bool.exists_bool, and_assoc, peta, tl_inj, ex_1, ex_2, ex_3, ex_4, ex_5, ex_6, ex_7, ex_8, ex_9, ey_2, ey_3, ey_4, ey_5, ey_6, ey_7, ey_8, ey_9]
  obtain ⟨q1, q2, q3, q4⟩ : SmT (.mk a b) ∧ SmT (.mk c d) ∧ SmTs nums ∧ times.length ≤ 1048576 := SmA.parts hs
  have q5 := q3.len
  have hd := head_iff kind (a, b) (c, d) nums times bound strict
  have e1 : ¬ kind = 2 → atomRight (kind, (a, b), (c, d), nums, times, bound, strict) = (decide (kind = 1) && (right (.mk a b) && right (.mk c d) && decide (nums = []) && decide (times = []) && decide (bound = 0) && !strict)) := fun h => by unfold atomRight; rw [if_neg h]; rfl
  have e2 : kind = 2 → atomRight (kind, (a, b), (c, d), nums, times, bound, strict) = (sumHead (kind, (a, b), (c, d), nums, times, bound, strict) && numOk none nums times) := fun h => by unfold atomRight; rw [if_pos h]; rfl
  generalize hX : ((kind, (a, b), (c, d), nums, times, bound, strict) : Atm) = X at *
  clear hs
  refine ⟨fun g => ?_, fun g => ⟨fun g' => ?_, fun g' => by rw [e1 g', decide_eq_false g]; simp⟩⟩
  · have h : ¬ kind = 2 := by omega
    refine ⟨q1, fun g1 => ⟨q2, fun g2 => ⟨fun g3 => ⟨fun g4 => ⟨fun g5 => ?_, fun g5 => ?_⟩, fun g4 => ?_⟩, fun g3 => ?_⟩, fun g2 => ?_⟩, fun g1 => ?_⟩
    · rw [e1 h, g1, g2, decide_eq_true g, decide_eq_true g3, decide_eq_true g4, decide_eq_true g5]; simp
    · rw [e1 h, decide_eq_false g5]; simp
    · rw [e1 h, decide_eq_false g4]; simp
    · rw [e1 h, decide_eq_false g3]; simp
    · rw [e1 h, g2]; simp
    · rw [e1 h, g1]; simp
  · have eN := e2 g'
    have noH : (sumHead X = true → False) → atomRight X = false := fun h => by
      rw [eN]
      cases e : sumHead X with
      | false => rfl
      | true => exact (h e).elim
    have noN : numOk none nums times = false → atomRight X = false := fun h => by rw [eN, h]; simp
    have win : ∀ {x lo hi : Int}, withinI x lo hi = false ↔ ¬ (lo ≤ x ∧ x ≤ hi) := fun {x lo hi} => by
      simp only [withinI, Bool.and_eq_false_iff, decide_eq_false_iff_not]; omega
    have wiy : ∀ {x lo hi : Int}, withinI x lo hi = true ↔ (lo ≤ x ∧ x ≤ hi) := fun {x lo hi} => by
      simp only [withinI, Bool.and_eq_true, decide_eq_true_eq]
    refine ⟨fun g1 => noH fun h => (by rw [(hd.1 h).1] at g1; cases g1), fun g1 => ⟨fun g2 => noH fun h => (by rw [(hd.1 h).2.1] at g2; cases g2), fun g2 => ⟨fun g3 => noH fun h => (by have := hd.1 h; have := win.1 g3; omega), fun g3 => ⟨fun g4 => noH fun h => (by have := hd.1 h; omega), fun g4 => ⟨fun g5 => noH fun h => (by have := hd.1 h; have := win.1 g5; omega), fun g5 => ?_⟩⟩⟩⟩⟩
    have g3' := wiy.1 g3
    have g5' := wiy.1 g5
    have hh : sumHead X = true := hd.2 ⟨g1, g2, by omega, by omega, by omega, g5'.1, g5'.2⟩
    refine ⟨g', hh, ⟨0, by simp, by simp [prevN], rfl⟩, fun k _ _ hk he => ⟨fun hlt => ?_, fun hge => ?_⟩⟩
    · obtain ⟨f1, f2, f3, f4⟩ := num_step hlt (by omega) he
      refine ⟨hlt, q3.mem (getD_mem dT hlt), fun h => noN (f1 h), fun r1 => ⟨by omega, fun h => noN (f2 (timeOk_no (by have := win.1 h; omega))), fun r2 => ⟨by omega, fun h => noN (f2 (timeOk_no (by omega))), fun r3 => ⟨fun hp => ?_, fun hz => ⟨g', hh, k + 1, hlt, f4 r1 (timeOk_iff.2 ⟨r3, wiy.1 r2⟩) (above_none hz), by omega, wrap_small (by omega) (by omega)⟩⟩⟩⟩⟩
      rw [wrap_small (x := (k : Int) - 1) (by omega) (by omega)]
      have e : ((k : Int) - 1).toNat = k - 1 := by omega
      rw [e]
      have hab := above_prev (nums := nums) hp
      exact ⟨by omega, by omega, by omega, q3.mem (getD_mem dT (by omega)), q3.mem (getD_mem dT hlt), fun h => noN (f3 (by rw [hab]; exact h)), fun h => ⟨g', hh, k + 1, hlt, f4 r1 (timeOk_iff.2 ⟨r3, wiy.1 r2⟩) (by rw [hab]; exact h), by omega, wrap_small (by omega) (by omega)⟩⟩
    · rw [eN, hh, he, num_end hge]; rfl)
theorem right_eq {kind : Int} {a b : TP} {nums : List Tm} {times : List Int} {bound : Int} {strict : Bool} (h : atomRight (kind, a, b, nums, times, bound, strict) = true) :
    (kind = 1 → right (.mk a.1 a.2) = true ∧ right (.mk b.1 b.2) = true) ∧ (¬ kind = 1 → ∀ t ∈ nums, right t = true) := by
  unfold atomRight at h
  split at h
  · rename_i h2
    have h2 : kind = 2 := h2
    refine ⟨fun h1 => by omega, fun _ => ?_⟩
    simp only [sumRight, Bool.and_eq_true] at h
    exact numOk_right ((head_iff kind a b nums times bound strict).1 h.1).2.2.1 h.2
  · simp only [eqRight, Bool.and_eq_true, decide_eq_true_eq] at h
    exact ⟨fun _ => ⟨h.2.1.1.1.1.1, h.2.1.1.1.1.2⟩, fun h1 => absurd h.1 h1⟩
theorem isNum_iff {s : Sig} {t : Tm} (hs : sigOk s = true) (hr : right t = true) : isNum s t = true ↔ (sortT s t).getD (-1) = 1 := by
  unfold isNum
  rw [ts_yes hs hr]
  cases sortT s t with
  | none => simp
  | some n => simp
theorem eqSorted_iff {s : Sig} {a b : Tm} (hs : sigOk s = true) (h1 : right a = true) (h2 : right b = true) : eqSorted s a b = (decide (0 ≤ (sortT s a).getD (-1)) && decide ((sortT s a).getD (-1) = (sortT s b).getD (-1))) := by
  unfold eqSorted
  rw [ts_yes hs h1, ts_yes hs h2]
  cases ea : sortT s a with
  | none => simp
  | some n =>
    have hn := sortT_sort hs ea
    cases eb : sortT s b with
    | none =>
      simp only [Option.isSome_some, Option.isSome_none, Bool.and_false, Bool.false_and, Option.getD_some, Option.getD_none]
      rw [decide_eq_false (by omega : ¬ n = -1)]; simp
    | some m =>
      simp only [Option.isSome_some, Bool.true_and, Option.getD_some]
      rw [decide_eq_true (by omega : 0 ≤ n)]; simp

theorem k_sAtomOk : SoundC Try.prog K_sAtomOk.1 K_sAtomOk.2 := sound_of hm (((CtxOK.nil.and k_lOf).and k_l6Right).and k_sSigOk) (fun x => A_sAtomOk x.1 x.2) (by kernel_rfl) fun (x : Sig × Atm) hl => (by
  have hg : SmG x.1 := hl.1
  have hs : SmA x.2 := hl.2
  clear hl
  rw [← vc_sAtomOk x]
  obtain ⟨s, kind, ⟨a, b⟩, ⟨c, d⟩, nums, times, bound, strict⟩ := x
  dsimp only at *
  simp [-List.getD_eq_getElem?_getD, -List.mem_cons, -Bool.forall_bool, -Bool.exists_bool, and_assoc, peta, tl_inj, ex_1, ex_2, ex_3, ex_4, ex_5, ex_6, ex_7, ex_8, ex_9, ey_2, ey_3, ey_4, ey_5, ey_6, ey_7, ey_8, ey_9]
  obtain ⟨q1, q2, q3, q4⟩ : SmT (.mk a b) ∧ SmT (.mk c d) ∧ SmTs nums ∧ times.length ≤ 1048576 := SmA.parts hs
  have q5 := q3.len
  have e0 : atomOk s (kind, (a, b), (c, d), nums, times, bound, strict) = (sigOk s && atomRight (kind, (a, b), (c, d), nums, times, bound, strict) && if kind = 1 then eqSorted s (.mk a b) (.mk c d) else nums.all (isNum s)) := rfl
  have hr := right_eq (kind := kind) (a := (a, b)) (b := (c, d)) (nums := nums) (times := times) (bound := bound) (strict := strict)
  generalize hX : ((kind, (a, b), (c, d), nums, times, bound, strict) : Atm) = X at *
  refine ⟨hg, fun h => by rw [e0, h]; rfl, fun h => ⟨hs, fun h2 => by rw [e0, h2]; simp, fun h2 => ⟨fun g => ⟨h, hg, q1, fun g1 => ⟨h, hg, q2, ?_⟩, fun g1 => ?_⟩, fun g => ⟨h, h2, g, ⟨0, by simp, by simp, rfl⟩, fun k _ _ _ hk he => ⟨fun hlt => ?_, fun hge => ?_⟩⟩⟩⟩⟩
  · rw [e0, h, h2, if_pos g, eqSorted_iff h ((hr h2).1 g).1 ((hr h2).1 g).2, decide_eq_true g1, Bool.beq_eq_decide_eq]; simp
  · have hra : right (.mk a b) = true := ((hr h2).1 g).1
    have hrb : right (.mk c d) = true := ((hr h2).1 g).2
    rw [e0, h, h2, if_pos g, eqSorted_iff h hra hrb, decide_eq_false (by omega : ¬ 0 ≤ (sortT s (Tree.mk a b)).getD (-1))]; simp
  · have hi := isNum_iff h ((hr h2).2 g _ (getD_mem dT hlt))
    rw [drop_get dT hlt, List.all_cons] at he
    refine ⟨hlt, h, hg, q3.mem (getD_mem dT hlt), fun h3 => ?_, fun h3 => ⟨h, h2, g, k + 1, hlt, ?_, by omega, wrap_small (by omega) (by omega)⟩⟩
    · have : isNum s (nums.getD k dT) = false := by cases e : isNum s (nums.getD k dT) with
        | false => rfl
        | true => exact absurd (hi.1 e) h3
      rw [e0, if_neg g, he, this]; simp
    · rw [he, hi.2 h3]; rfl
  · rw [drop_end (by omega)] at he
    rw [e0, h, h2, if_neg g, he]; rfl)
theorem k_isNumber : SoundC Try.prog K_isNumber.1 K_isNumber.2 := sound_of hm (CtxOK.nil.and k_iTermSort) (fun _ => []) (by kernel_rfl) fun (x : Sig × TP) hl => (by
  have hg : SmG x.1 := hl.1
  have ht : SmT (.mk x.2.1 x.2.2) := hl.2
  clear hl
  rw [← vc_isNumber x]
  obtain ⟨s, a, b⟩ := x
  dsimp only at *
  simp [-List.getD_eq_getElem?_getD, -List.mem_cons, -Bool.forall_bool, -Bool.exists_bool, and_assoc, peta, tl_inj, ex_1, ex_2, ex_3, ex_4, ex_5, ex_6, ex_7, ex_8, ex_9, ey_2, ey_3, ey_4, ey_5, ey_6, ey_7, ey_8, ey_9]
  unfold isNum
  exact ⟨hg, ht, fun h => by rw [h, Bool.true_and, Bool.beq_eq_decide_eq], fun h => by rw [h]; rfl⟩)
theorem k_AtomOk1 : SoundC Try.prog K_AtomOk1.1 K_AtomOk1.2 := sound_of hm (CtxOK.nil.and k_isNumber) (fun _ => []) (by kernel_rfl) fun (x : TP × Sig) hl => (by
  have hg : SmG x.2 := hl.1
  have ht : SmT (.mk x.1.1 x.1.2) := hl.2
  clear hl
  rw [← vc_AtomOk1 x]
  obtain ⟨⟨a, b⟩, s⟩ := x
  dsimp only at *
  simp [-List.getD_eq_getElem?_getD, -List.mem_cons, -Bool.forall_bool, -Bool.exists_bool, and_assoc, peta, tl_inj, ex_1, ex_2, ex_3, ex_4, ex_5, ex_6, ex_7, ex_8, ex_9, ey_2, ey_3, ey_4, ey_5, ey_6, ey_7, ey_8, ey_9]
  exact ⟨hg, ht⟩)
theorem k_IndexTerm : SoundC Try.prog K_IndexTerm.1 K_IndexTerm.2 := sound_of hm (CtxOK.nil.and k_AtomOk1) (fun x => A_IndexTerm x.1 x.2) (by kernel_rfl) fun (x : List Tm × Sig) hl => (by
  have hg : SmG x.2 := hl.2
  have ht : SmTs x.1 := hl.1
  clear hl
  rw [← vc_IndexTerm x]
  obtain ⟨l, s⟩ := x
  dsimp only at *
  simp [-List.getD_eq_getElem?_getD, -List.mem_cons, -Bool.forall_bool, -Bool.exists_bool, and_assoc, peta, tl_inj, ex_1, ex_2, ex_3, ex_4, ex_5, ex_6, ex_7, ex_8, ex_9, ey_2, ey_3, ey_4, ey_5, ey_6, ey_7, ey_8, ey_9]
  have hlen := ht.len
  exact ⟨⟨0, by simp, idx_init _ _, rfl⟩, fun k hk he => ⟨fun hlt => ⟨hlt, hg, ht.mem (getD_mem dT hlt), fun h => (idx_step dT _ hlt he).1 (by simp [h, -List.getD_eq_getElem?_getD]), fun h => ⟨k + 1, hlt, (idx_step dT _ hlt he).2 (by simp [h, -List.getD_eq_getElem?_getD]), by omega, wrap_small (by omega) (by omega)⟩⟩, fun hge => idx_end _ hge he⟩⟩)
theorem k_ContainsTerm : SoundC Try.prog K_ContainsTerm.1 K_ContainsTerm.2 := sound_of hm (CtxOK.nil.and k_IndexTerm) (fun _ => []) (by kernel_rfl) fun (x : List Tm × Sig) hl => (by
  have hg : SmG x.2 := hl.2
  have ht : SmTs x.1 := hl.1
  clear hl
  rw [← vc_ContainsTerm x]
  obtain ⟨l, s⟩ := x
  dsimp only at *
  simp only [idx_any]
  simp [-List.getD_eq_getElem?_getD, -List.mem_cons, -Bool.forall_bool, -Bool.exists_bool, and_assoc, peta, tl_inj, ex_1, ex_2, ex_3, ex_4, ex_5, ex_6, ex_7, ex_8, ex_9, ey_2, ey_3, ey_4, ey_5, ey_6, ey_7, ey_8, ey_9]
  exact ⟨ht, hg⟩)
theorem k_Eqsorted : SoundC Try.prog K_Eqsorted.1 K_Eqsorted.2 := sound_of hm (CtxOK.nil.and k_iTermSort) (fun _ => []) (by kernel_rfl) fun (x : TP × TP × Sig) hl => (by
  obtain ⟨h1, h2, h3⟩ : SmT (.mk x.1.1 x.1.2) ∧ SmT (.mk x.2.1.1 x.2.1.2) ∧ SmG x.2.2 := hl
  rw [← vc_Eqsorted x]
  obtain ⟨⟨a, b⟩, ⟨c, d⟩, s⟩ := x
  dsimp only at *
  simp [-List.getD_eq_getElem?_getD, -List.mem_cons, -Bool.forall_bool, -Bool.exists_bool, and_assoc, peta, tl_inj, ex_1, ex_2, ex_3, ex_4, ex_5, ex_6, ex_7, ex_8, ex_9, ey_2, ey_3, ey_4, ey_5, ey_6, ey_7, ey_8, ey_9]
  unfold eqSorted
  exact ⟨h3, h1, h3, h2, fun g1 => ⟨fun g2 => by rw [g1, g2, Bool.beq_eq_decide_eq]; rfl, fun g2 => by rw [g2]; simp⟩, fun g1 => by rw [g1]; rfl⟩)
theorem k_iAtomOk : SoundC Try.prog K_iAtomOk.1 K_iAtomOk.2 := sound_of hm ((((CtxOK.nil.and k_ContainsTerm).and k_Eqsorted).and k_Atomok).and k_iSigOk) (fun _ => []) (by kernel_rfl) fun (x : Sig × Atm) hl => (by
  have hg : SmG x.1 := hl.1
  have hs : SmA x.2 := hl.2
  clear hl
  rw [← vc_iAtomOk x]
  obtain ⟨s, kind, ⟨a, b⟩, ⟨c, d⟩, nums, times, bound, strict⟩ := x
  dsimp only at *
  simp [-List.getD_eq_getElem?_getD, -List.mem_cons, -Bool.forall_bool, -Bool.exists_bool, and_assoc, peta, tl_inj, ex_1, ex_2, ex_3, ex_4, ex_5, ex_6, ex_7, ex_8, ex_9, ey_2, ey_3, ey_4, ey_5, ey_6, ey_7, ey_8, ey_9]
  obtain ⟨q1, q2, q3, q4⟩ : SmT (.mk a b) ∧ SmT (.mk c d) ∧ SmTs nums ∧ times.length ≤ 1048576 := SmA.parts hs
  have e0 : atomOk s (kind, (a, b), (c, d), nums, times, bound, strict) = (sigOk s && atomRight (kind, (a, b), (c, d), nums, times, bound, strict) && if kind = 1 then eqSorted s (.mk a b) (.mk c d) else nums.all (isNum s)) := rfl
  generalize hX : ((kind, (a, b), (c, d), nums, times, bound, strict) : Atm) = X at *
  refine ⟨hg, fun h => by rw [e0, h]; rfl, fun h => ⟨hs, fun h2 => by rw [e0, h2]; simp, fun h2 => ⟨fun g => ⟨q1, q2, hg, ?_⟩, fun g => ⟨q3, hg, ?_⟩⟩⟩⟩
  · rw [e0, h, h2, if_pos g]; rfl
  · rw [e0, h, h2, if_neg g, all_any]; simp)
end Cg

/-
  The codes' contracts: the truth of literals in models. No condition.
-/
set_option linter.unusedVariables false
set_option linter.unusedSimpArgs false
set_option maxRecDepth 100000
set_option maxHeartbeats 1000000
namespace Pl
open Go Cg
end Pl
namespace Cg
open Go Go.Proofs Pl
end Cg

/-
  The codes' contracts: drawn words and models. No condition.
-/
set_option linter.unusedVariables false
set_option linter.unusedSimpArgs false
set_option maxRecDepth 100000
namespace Cg
open Go Go.Proofs Pl
theorem slit (v : ByteArray) (j : Nat) (hj : j < 1) : [st v].getD j .any = eS v j := by
  have : j = 0 := by omega
  subst this
  rfl
@[simp] theorem strs_lit3 {a b c : ByteArray} {m : List ByteArray} : Is (.lit 3 1 (rowsCell [[st a], [st b], [st c]])) (strs m) ↔ [a, b, c] = m := Is_lits (by decide) EncN.eS [a, b, c] m (fun v => [st v]) slit
@[simp] theorem strs_lit5 {a b c d e : ByteArray} {m : List ByteArray} : Is (.lit 5 1 (rowsCell [[st a], [st b], [st c], [st d], [st e]])) (strs m) ↔ [a, b, c, d, e] = m := Is_lits (by decide) EncN.eS [a, b, c, d, e] m (fun v => [st v]) slit
@[simp] theorem strs_lit4 {a b c d : ByteArray} {m : List ByteArray} : Is (.lit 4 1 (rowsCell [[st a], [st b], [st c], [st d]])) (strs m) ↔ [a, b, c, d] = m := Is_lits (by decide) EncN.eS [a, b, c, d] m (fun v => [st v]) slit
theorem k_of : SoundC Try.prog K_of.1 K_of.2 := sound_of hm (CtxOK.nil.and k_pick) (fun _ => []) (by kernel_rfl) fun ((b, p, l) : List Int × Int × List ByteArray) hb => (by
  obtain ⟨h1, h2, h3⟩ : Rd 1099511627776 b p ∧ l ≠ [] ∧ Sz l := hb
  rw [← vc_of b p l]
  simp [-List.getD_eq_getElem?_getD, -List.mem_cons, -Bool.forall_bool, -Bool.exists_bool, and_assoc, peta, tl_inj, ex_1, ex_2, ex_3, ex_4, ex_5, ex_6, ex_7, ex_8, ex_9, ey_2, ey_3, ey_4, ey_5, ey_6, ey_7, ey_8, ey_9]
  have h0 : 0 < l.length := List.length_pos_iff.2 h2
  refine ⟨h1, fun y hy _ => ?_⟩
  obtain ⟨h4, h5⟩ := hy (by omega)
  exact ⟨h4, h5, by omega, getD_mem _ (by omega)⟩)
/-- Rows that were written out, one by one. -/
def LitR {α : Type} (k : Nat) (e : α → Nat → AV) (d : α) (rows : List (List AV)) (l : List α) : Prop := rows.length = l.length ∧ ∀ i, i < l.length → ∀ j, j < k → Is ((rows.getD i []).getD j .any) (e (l.getD i d) j)
theorem LitR.nil {α : Type} {k : Nat} {e : α → Nat → AV} {d : α} : LitR k e d [] [] := ⟨rfl, fun i hi => by cases hi⟩
theorem LitR.cons {α : Type} {k : Nat} {e : α → Nat → AV} {d : α} {rows : List (List AV)} {l : List α} (h : LitR k e d rows l) {r : List AV} {v : α} (hr : ∀ j, j < k → Is (r.getD j .any) (e v j)) : LitR k e d (r :: rows) (v :: l) :=
  ⟨by simp [h.1], fun i hi j hj => by
    cases i with
    | zero => exact hr j hj
    | succ i => exact h.2 i (by simpa using hi) j hj⟩
theorem LitR.is {α : Type} {k : Nat} {e : α → Nat → AV} {d : α} {rows : List (List AV)} {l : List α} (h : LitR k e d rows l) : Is (.lit rows.length k (rowsCell rows)) (.sl l.length k fun i j => e (l.getD i d) j) :=
  Is_lit_of h.1 fun i hi j hj => h.2 i hi j hj
theorem rowY {a : ByteArray} {b : AV} {l : List Int} {c : Int} (hb : Is b (ints l)) : ∀ j, j < 3 → Is ([st a, b, i64 c].getD j .any) (eY (a, l, c) j) := Is_rowY hb
theorem ints_l0 {q : Nat} {c : Nat → Nat → AV} : Is (.lit 0 q c) (ints []) := ints_nil.2 rfl
theorem ints_l1 {a : Int} : Is (.lit 1 1 (rowsCell [[i64 a]])) (ints [a]) := ints_lit1.2 rfl
theorem ints_l2 {a b : Int} : Is (.lit 2 1 (rowsCell [[i64 a], [i64 b]])) (ints [a, b]) := ints_lit2.2 rfl
theorem base_small (k : Int) : SgB 5 2 (base k) := by
  unfold base
  split
  · exact ⟨by decide, by simp; decide⟩
  · split
    · exact ⟨by decide, by simp; decide⟩
    · split
      · exact ⟨by decide, by simp; decide⟩
      · split
        · exact ⟨by decide, by simp; decide⟩
        · exact ⟨by decide, by simp⟩
theorem k_l4Base : SoundC Try.prog K_l4Base.1 K_l4Base.2 := sound_of hm CtxOK.nil (fun _ => []) (by kernel_rfl) fun (k : Int) hb => (by
  rw [← vc_l4Base k]
  simp [-List.getD_eq_getElem?_getD, -List.mem_cons, -Bool.forall_bool, -Bool.exists_bool, and_assoc, peta, tl_inj, ex_1, ex_2, ex_3, ex_4, ex_5, ex_6, ex_7, ex_8, ex_9, ey_2, ey_3, ey_4, ey_5, ey_6, ey_7, ey_8, ey_9]
  refine ⟨fun h => ?_, fun h0 => ⟨fun h => ?_, fun h1 => ⟨fun h => ?_, fun h2 => ⟨fun h => ?_, fun h3 => ?_⟩⟩⟩⟩
  · unfold base; rw [if_pos h]
    exact (((((LitR.nil.cons (rowY ints_l2)).cons (rowY ints_l1)).cons (rowY ints_l0)).cons (rowY ints_l0)).cons (rowY ints_l0)).is
  · unfold base; rw [if_neg h0, if_pos h]
    exact (((((LitR.nil.cons (rowY ints_l0)).cons (rowY ints_l0)).cons (rowY ints_l1)).cons (rowY ints_l0)).cons (rowY ints_l0)).is
  · unfold base; rw [if_neg h0, if_neg h1, if_pos h]
    exact ((((LitR.nil.cons (rowY ints_l0)).cons (rowY ints_l0)).cons (rowY ints_l0)).cons (rowY ints_l1)).is
  · unfold base; rw [if_neg h0, if_neg h1, if_neg h2, if_pos h]
    exact (((((LitR.nil.cons (rowY ints_l0)).cons (rowY ints_l0)).cons (rowY ints_l2)).cons (rowY ints_l1)).cons (rowY ints_l0)).is
  · unfold base; rw [if_neg h0, if_neg h1, if_neg h2, if_neg h3])
theorem k_l4Sig : SoundC Try.prog K_l4Sig.1 K_l4Sig.2 := sound_of hm ((CtxOK.nil.and k_l4Base).and k_num) (fun _ => []) (by kernel_rfl) fun ((b, p) : List Int × Int) hb => (by
  replace hb : Rd 549755813888 b p := hb
  rw [← vc_l4Sig b p]
  simp [-List.getD_eq_getElem?_getD, -List.mem_cons, -Bool.forall_bool, -Bool.exists_bool, and_assoc, peta, tl_inj, ex_1, ex_2, ex_3, ex_4, ex_5, ex_6, ex_7, ex_8, ex_9, ey_2, ey_3, ey_4, ey_5, ey_6, ey_7, ey_8, ey_9]
  exact ⟨hb.to hb.2.2.1 (by have := hb.2.2.2; omega), fun y _ => base_small y⟩)
theorem IsR_store {α : Type} {k : Nat} {e : α → Nat → AV} {d : α} (he : EncN k e) {l : List α} {i0 off : Nat} {v : α} {vs : List AV}
    (h : ∀ j, j < k → Is (bif Nat.ble off j && Nat.blt j (off + vs.length) then vs.getD (j - off) .any else e (l.getD i0 d) j) (e v j)) : IsR k e d (storeC (fun i j => e (l.getD i d) j) i0 off vs) (l.set i0 v) := fun i hi j hj => by
  have hi' : i < l.length := by simpa using hi
  unfold storeC
  by_cases hii : i = i0
  · subst hii
    have e1 : (l.set i v).getD i d = v := by simp [hi']
    rw [e1, beq_iff.2 rfl, Bool.true_and]
    exact h j hj
  · have e1 : (l.set i0 v).getD i d = l.getD i d := by simp only [List.getD_eq_getElem?_getD, List.getElem?_set_ne (Ne.symm hii)]
    have e2 : Nat.beq i i0 = false := by
      cases hb : Nat.beq i i0
      · rfl
      · exact absurd (beq_iff.1 hb) hii
    rw [e1, e2]
    exact he.self _ hj
theorem IsR_storeG {α : Type} {k : Nat} {e : α → Nat → AV} {d : α} {c : Nat → Nat → AV} {l : List α} (hc : IsR k e d c l) {i0 : Nat} {v : α} {vs : List AV} (hl : vs.length = k)
    (h : ∀ j, j < k → Is (vs.getD j .any) (e v j)) : IsR k e d (storeC c i0 0 vs) (l.set i0 v) := fun i hi j hj => by
  have hi' : i < l.length := by simpa using hi
  unfold storeC
  by_cases hii : i = i0
  · subst hii
    have e1 : (l.set i v).getD i d = v := by simp [hi']
    rw [e1, beq_iff.2 rfl, Bool.true_and, ble_iff.2 (Nat.zero_le j), blt_true (by omega), Bool.true_and, cond_true, Nat.sub_zero]
    exact h j hj
  · have e1 : (l.set i0 v).getD i d = l.getD i d := by simp only [List.getD_eq_getElem?_getD, List.getElem?_set_ne (Ne.symm hii)]
    have e2 : Nat.beq i i0 = false := by
      cases hb : Nat.beq i i0
      · rfl
      · exact absurd (beq_iff.1 hb) hii
    rw [e1, e2, Bool.false_and, Bool.false_and, cond_false]
    exact hc i hi' j hj
theorem IsO_xpush {α : Type} {k : Nat} {e : α → Nat → AV} {d : α} {l : List α} {n : Nat} {row : List AV} {v : α} (hn : n = l.length) (hs : ∀ x j, j < k → IsX (e x j) (e x j)) (hr : ∀ j, j < k → IsX (row.getD j .any) (e v j)) :
    IsO (.xarr (n + 1) k (joinC n (fun i j => e (l.getD i d) j) (rowsCell [row]))) (.xarr (l ++ [v]).length k fun i j => e ((l ++ [v]).getD i d) j) := by
  subst hn
  refine ⟨rfl, by simp, fun i hi j hj => ?_⟩
  by_cases h' : i < l.length
  · have e1 : (l ++ [v]).getD i d = l.getD i d := by simp only [List.getD_eq_getElem?_getD, List.getElem?_append_left h']
    show IsX (joinC l.length (fun i j => e (l.getD i d) j) (rowsCell [row]) i j) (e ((l ++ [v]).getD i d) j)
    unfold joinC
    rw [blt_true h', e1]
    exact hs _ j hj
  · have hi' : i = l.length := by omega
    subst hi'
    have e1 : (l ++ [v]).getD l.length d = v := by simp
    show IsX (joinC l.length (fun i j => e (l.getD i d) j) (rowsCell [row]) l.length j) (e ((l ++ [v]).getD l.length d) j)
    unfold joinC
    rw [blt_false h', e1, Nat.sub_self]
    exact hr j hj
theorem IsX_v (x : Value) : IsX (.v x) (.v x) := rfl
theorem IsX_intsS {v : List Int} : IsX (ints v) (ints v) := ⟨rfl, rfl, fun i hi j hj => EncN.eI.self _ hj⟩
theorem IsX_eY (x : Sym) (j : Nat) (hj : j < 3) : IsX (eY x j) (eY x j) := by
  match j, hj with
  | 0, _ => exact IsX_v _
  | 1, _ => exact IsX_intsS
  | 2, _ => exact IsX_v _
theorem xrY_push {l : List Sym} {n : Nat} {a : ByteArray} {v : List Int} {c : Int} (hn : n = l.length) : IsO (.xarr (n + 1) 3 (joinC n (cY l) (rowsCell [[st a, AV.sl v.length 1 (cI v), i64 c]]))) (xrY (l ++ [(a, v, c)])) :=
  IsO_xpush hn IsX_eY fun j hj => by
    match j, hj with
    | 0, _ => exact IsX_v _
    | 1, _ => exact IsX_intsS
    | 2, _ => exact IsX_v _
theorem IsX_eR (x : Rw) (j : Nat) (hj : j < 4) : IsX (eR x j) (eR x j) := by
  match j, hj with
  | 0, _ => exact IsX_v _
  | 1, _ => exact ⟨rfl, rfl, fun i hi j hj => EncN.eQ.self _ hj⟩
  | 2, _ => exact IsX_v _
  | 3, _ => exact IsX_v _
@[simp] theorem xrR_self {l : List Rw} : IsO (xrR l) (xrR l) := ⟨rfl, rfl, fun i hi j hj => IsX_eR _ j hj⟩
theorem mem_set_imp {α : Type} {q : α → Prop} {l : List α} {i : Nat} {v : α} (h : ∀ x ∈ l, q x) (hv : q v) : ∀ x ∈ l.set i v, q x := fun x hx => by
  rcases List.mem_or_eq_of_mem_set hx with e | e
  · exact h x e
  · rw [e]; exact hv
theorem mem_push_imp {α : Type} {q : α → Prop} {l : List α} {v : α} (h : ∀ x ∈ l, q x) (hv : q v) : ∀ x ∈ l ++ [v], q x := fun x hx => by
  rcases List.mem_append.1 hx with e | e
  · exact h x e
  · rw [List.mem_singleton.1 e]; exact hv
theorem _root_.Pl.SgB.mono {n k n' k' : Nat} {s : Pl.Sig} (h : SgB n k s) (h1 : n ≤ n') (h2 : k ≤ k') : SgB n' k' s := ⟨Nat.le_trans h.1 h1, fun x hx => ⟨(h.2 x hx).1, Nat.le_trans (h.2 x hx).2 h2⟩⟩
theorem _root_.Pl.SgB.set {n k : Nat} {s : Pl.Sig} (h : SgB n k s) {i : Nat} {x : Sym} (hx : x.1.size ≤ 10 ∧ x.2.1.length ≤ k) : SgB n k (s.set i x) := ⟨by simpa using h.1, mem_set_imp h.2 hx⟩
theorem _root_.Pl.SgB.push {n k : Nat} {s : Pl.Sig} (h : SgB n k s) {x : Sym} (hn : s.length < n) (hx : x.1.size ≤ 10 ∧ x.2.1.length ≤ k) : SgB n k (s ++ [x]) := ⟨by simp; omega, mem_push_imp h.2 hx⟩
theorem _root_.Pl.MdB.mono {n k n' k' : Nat} {s : Mdl} (h : MdB n k s) (h1 : n ≤ n') (h2 : k ≤ k') : MdB n' k' s := ⟨Nat.le_trans h.1 h1, fun x hx => ⟨(h.2 x hx).1, Nat.le_trans (h.2 x hx).2 h2⟩⟩
theorem _root_.Pl.MdB.set {n k : Nat} {s : Mdl} (h : MdB n k s) {i : Nat} {x : Rw} (hx : x.1.size ≤ 10 ∧ x.2.1.length ≤ k) : MdB n k (s.set i x) := ⟨by simpa using h.1, mem_set_imp h.2 hx⟩
theorem _root_.Pl.MdB.push {n k : Nat} {s : Mdl} (h : MdB n k s) {x : Rw} (hn : s.length < n) (hx : x.1.size ≤ 10 ∧ x.2.1.length ≤ k) : MdB n k (s ++ [x]) := ⟨by simp; omega, mem_push_imp h.2 hx⟩
theorem names5 : ∀ y ∈ [(⟨#[]⟩ : ByteArray), ⟨#[65]⟩, ⟨#[97, 98, 99]⟩, ⟨#[122, 122]⟩, ⟨#[97]⟩], y.size ≤ 10 := by decide
theorem names3 : ∀ y ∈ [(⟨#[97]⟩ : ByteArray), ⟨#[98]⟩, ⟨#[122]⟩], ((⟨#[122]⟩ : ByteArray) ++ y).size ≤ 10 ∧ y.size ≤ 10 := by decide
theorem k_l4Bent : SoundC Try.prog K_l4Bent.1 K_l4Bent.2 := sound_of hm (((CtxOK.nil.and k_of).and k_num).and k_pick) (fun (b, p, s, n, k) => A_l4Bent b p s n k) (by kernel_rfl) fun ((b, p, s, n, r) : List Int × Int × Pl.Sig × Nat × Nat) hb => (by
  obtain ⟨h1, h2, hn1, hn2, hr2⟩ : Rd 274877906944 b p ∧ SgB n r s ∧ 7 ≤ n ∧ n ≤ 14 ∧ r ≤ 8 := hb
  rw [← vc_l4Bent b p s n r]
  simp [-List.getD_eq_getElem?_getD, -List.mem_cons, -Bool.forall_bool, -Bool.exists_bool, and_assoc, peta, tl_inj, ex_1, ex_2, ex_3, ex_4, ex_5, ex_6, ex_7, ex_8, ex_9, ey_2, ey_3, ey_4, ey_5, ey_6, ey_7, ey_8, ey_9]
  obtain ⟨s1, s2⟩ : s.length ≤ n ∧ ∀ x ∈ s, x.1.size ≤ 10 ∧ x.2.1.length ≤ r := id h2
  have g3 := h1.2.2.1
  have g4 := h1.2.2.2
  have hB : SgB (n + 1) (r + 1) s := h2.mono (by omega) (by omega)
  refine ⟨⟨0, by omega, rfl, rfl, .inl rfl⟩, fun x hx => ⟨fun hlt => ?_, fun hge => ?_⟩⟩
  · have h3 := s2 _ (getD_mem dY hlt)
    refine ⟨hlt, by omega, by omega, by omega, by omega, by omega, wrap_succ hlt (by omega), ?_⟩
    rw [Pl.take_succ_getD dY hlt]
    exact xrY_push (by simp; omega)
  · obtain rfl : x = s.length := by omega
    rw [List.take_length, Nat.min_self]
    have hI : Is (AV.sl s.length 3 (cY s)) (syms s) := (syms_take (Nat.le_refl _)).2 List.take_length
    refine ⟨fun _ => ⟨s, hB, by omega, by omega, hI⟩, fun h0 => ⟨h1.to (by omega) (by omega), fun y y1 y2 => ⟨fun _ => ⟨s, hB, by omega, by omega, hI⟩, fun _ => ⟨h1.to (by omega) (by omega), fun k hk _ => ⟨h1.to (by omega) (by omega), fun z z1 z2 => ?_⟩⟩⟩⟩⟩
    obtain ⟨k1, k2⟩ := hk (by omega)
    have hkl : k.toNat < s.length := by omega
    have h3 := s2 _ (getD_mem dY hkl)
    have hsl : ∀ v : Sym, (s.set k.toNat v).length = s.length := fun v => by simp
    refine ⟨fun _ => ⟨h1.to (by omega) (by omega), fun nm hnm => ?_⟩, fun _ => ⟨fun _ => ?_, fun _ => ⟨fun _ => ⟨h1.to (by omega) (by omega), fun v hv => ?_⟩, fun _ => ⟨fun _ => ?_, fun _ => ⟨⟨s, hB, by omega, by omega, rfl, .inr rfl⟩, fun a q ha q1 q2 => ⟨fun hle => ⟨h1.to (by omega) (by omega), fun nm hnm => ?_⟩, fun _ => ⟨ha, by omega, by have := ha.1; omega⟩⟩⟩⟩⟩⟩⟩
    · exact ⟨by omega, by omega, by omega, _, hB.set (x := (nm, (s.getD k.toNat dY).2)) ⟨names5 nm hnm, Nat.le_trans h3.2 (by omega)⟩, by omega, by omega, by omega, Is_sl_of (hsl _).symm (IsR_store EncN.eY fun j hj => by
        match j, hj with
        | 0, _ => exact Is_st.2 rfl
        | 1, _ => exact EncN.eY.self _ (j := 1) (by decide)
        | 2, _ => exact EncN.eY.self _ (j := 2) (by decide))⟩
    · have main : ∀ v : Int, ∃ a, SgB (n + 1) (r + 1) a ∧ p ≤ p + 1 + 1 + 1 + 1 ∧ p + 1 + 1 + 1 + 1 ≤ p + 100 ∧ s.length ≤ s.length ∧ Is (AV.sl s.length 3 fun i j => storeC (cY s) k.toNat 1 [AV.sl ((s.getD k.toNat dY).snd.fst.length + 1) 1 (joinC (s.getD k.toNat dY).snd.fst.length (cI (s.getD k.toNat dY).snd.fst) (rowsCell [[i64 v]]))] i j) (syms a) := fun v =>
        ⟨_, hB.set (x := ((s.getD k.toNat dY).1, (s.getD k.toNat dY).2.1 ++ [v], (s.getD k.toNat dY).2.2)) ⟨h3.1, by dsimp only; rw [List.length_append, List.length_singleton]; omega⟩, by omega, by omega, by omega, Is_sl_of (hsl _).symm (IsR_store EncN.eY fun j hj => by
          match j, hj with
          | 0, _ => exact EncN.eY.self _ (j := 0) (by decide)
          | 1, _ => exact ((Rds.cel EncN.eI (s.getD k.toNat dY).2.1).join (Rds.row (ints_row v))).is
          | 2, _ => exact EncN.eY.self _ (j := 2) (by decide))⟩
      exact ⟨by omega, by omega, by omega, h1.to (by omega) (by omega), fun v _ => ⟨by omega, by omega, by omega, by omega, by omega, main v⟩, h1.to (by omega) (by omega), fun v _ => ⟨by omega, by omega, by omega, by omega, by omega, by omega, by omega, main v⟩⟩
    · exact ⟨by omega, by omega, by omega, _, hB.set (x := ((s.getD k.toNat dY).1, (s.getD k.toNat dY).2.1, v)) ⟨h3.1, Nat.le_trans h3.2 (by omega)⟩, by omega, by omega, by omega, Is_sl_of (hsl _).symm (IsR_store EncN.eY fun j hj => by
        match j, hj with
        | 0, _ => exact EncN.eY.self _ (j := 0) (by decide)
        | 1, _ => exact EncN.eY.self _ (j := 1) (by decide)
        | 2, _ => exact Is_i64.2 rfl)⟩
    · exact ⟨by omega, by omega, by omega, by omega, by omega, _, hB.push (x := s.getD k.toNat dY) (by omega) ⟨h3.1, by omega⟩, by omega, by omega, ((Rds.cel EncN.eY s).join (Rds.row (IsR_row EncN.eY (Is_rowY (Is_ints.2 rfl))))).is⟩
    · obtain ⟨e1, e2⟩ := names3 nm hnm
      refine ⟨by omega, by omega, _, ha.push (x := (⟨#[122]⟩ ++ nm, [], 0)) (by omega) ⟨e1, Nat.zero_le _⟩, by omega, ?_, ?_, by simp, IsO_join EncN.eY (IsR_row EncN.eY (Is_rowY (ints_nil.2 rfl)))⟩
      · simp; omega
      · simp; omega)
end Cg

/-
  Drawn models that stay as they are. No condition.
-/

/-
  What is left to show of each function's code, printed by a program: Mdf. No condition.
-/
set_option maxRecDepth 100000
set_option linter.unusedVariables false
namespace Cg
open Go Go.Proofs
end Cg

/-
  The codes' contracts: drawn models, the rest, and the law that models are compared exactly. No condition.
-/
set_option linter.unusedVariables false
set_option linter.unusedSimpArgs false
set_option maxRecDepth 100000
namespace Cg
open Go Go.Proofs Pl
theorem sg_sm {n k : Nat} {s : Pl.Sig} (h : SgB n k s) (hn : n ≤ 100 := by decide) (hk : k ≤ 100 := by decide) : costG s ≤ 1048576 := by
  have : sumN costY s ≤ s.length * 110 := sumN_le fun x hx => by have := h.2 x hx; unfold costY; omega
  have h1 := h.1
  have : s.length * 110 ≤ 100 * 110 := Nat.mul_le_mul_right _ (by omega)
  unfold costG; omega
end Cg

/-
  The codes' contracts: drawn terms, and the law that functions are functional. No condition.
-/
set_option linter.unusedVariables false
set_option linter.unusedSimpArgs false
set_option maxRecDepth 100000
namespace Cg
open Go Go.Proofs Pl
theorem copy_push {ks : List Tm} {k : Nat} (hk : k ≤ ks.length) (hlt : k < ks.length) : IsO (AObj.arr (min k ks.length + 1) 2 (joinC (min k ks.length) (cT (List.take k ks)) (rowsCell [[st (Tree.val (ks.getD k dT)), terms (Tree.kids (ks.getD k dT))]]))) (arT (List.take (k + 1) ks)) := by
  have hlen : (ks.take k).length = k := by simp; omega
  rw [Nat.min_eq_left hk, Pl.take_succ_getD dT hlt]
  have := IsO_join (l := ks.take k) (m := [ks.getD k dT]) (d := dT) EncN.eT (IsR_row EncN.eT (Is_rowK rfl (Is_terms_kidsT.2 rfl)))
  rw [hlen] at this
  exact this
theorem namesT : ∀ y ∈ [(⟨#[]⟩ : ByteArray), ⟨#[65]⟩, ⟨#[97, 98, 99]⟩, ⟨#[102]⟩], y.size ≤ 10 := by decide
theorem LitR.rds {α : Type} {k : Nat} {e : α → Nat → AV} {d : α} {rows : List (List AV)} {l : List α} (h : LitR k e d rows l) : Rds k e d rows.length (rowsCell rows) l := ⟨h.1, fun i hi j hj => h.2 i hi j hj⟩
theorem CB_ge (n : Nat) : 12 ≤ CB n := by cases n <;> (unfold CB; omega)
theorem k_l4Copy : ∀ n, SoundC Try.prog (K_l4Copy n).1 (K_l4Copy n).2
  | 0 => ⟨by exact callable_of (by kernel_rfl), fun x hx => absurd hx.2 (Nat.not_lt_zero _)⟩
  | n + 1 => sound_of hm (CtxOK.nil.and (K := K_l4Copy n) (k_l4Copy n)) (fun (x : TP) => A_l4Copy x.1 x.2) (by kernel_rfl) fun (x : TP) hl => (by
    obtain ⟨v, ks⟩ := x
    obtain ⟨h1, h2⟩ : SmT (.mk v ks) ∧ manyL ks < n + 1 := hl
    rw [← vc_l4Copy n v ks]
    simp [-List.getD_eq_getElem?_getD, -List.mem_cons, -Bool.forall_bool, -Bool.exists_bool, and_assoc, peta, tl_inj, ex_1, ex_2, ex_3, ex_4, ex_5, ex_6, ex_7, ex_8, ex_9, ey_2, ey_3, ey_4, ey_5, ey_6, ey_7, ey_8, ey_9]
    refine ⟨⟨0, by omega, rfl, rfl, .inl rfl⟩, fun k hk => ⟨fun hlt => ?_, fun hge => List.take_of_length_le hge⟩⟩
    have ht := getD_mem dT hlt
    have c1 := costT_mem ht
    have c2 := costT_eq (.mk v ks)
    simp only [Tree.val_mk, Tree.kids_mk] at c2
    have m1 := many_mem ht
    have m2 := (ks.getD k dT).many_eq
    exact ⟨hlt, by omega, by omega, by omega, k + 1, hlt, by omega, wrap_succ hlt (by omega), by omega, copy_push hk hlt⟩)
theorem k_lCopy : SoundC Try.prog K_lCopy.1 K_lCopy.2 := SoundC.famI (fun (x : TP) => manyL x.2) k_l4Copy
theorem k_l4CopyO : SoundC Try.prog K_l4CopyO.1 K_l4CopyO.2 := sound_of hm (CtxOK.nil.and k_lCopy) (fun (x : TP) => A_l4CopyO x.1 x.2) (by kernel_rfl) fun (x : TP) hl => (by
  obtain ⟨v, ks⟩ := x
  replace hl : SmT (.mk v ks) := hl
  rw [← vc_l4CopyO v ks]
  simp [-List.getD_eq_getElem?_getD, -List.mem_cons, -Bool.forall_bool, -Bool.exists_bool, and_assoc, peta, tl_inj, ex_1, ex_2, ex_3, ex_4, ex_5, ex_6, ex_7, ex_8, ex_9, ey_2, ey_3, ey_4, ey_5, ey_6, ey_7, ey_8, ey_9]
  refine ⟨⟨0, by omega, rfl, rfl, .inl rfl⟩, fun k hk => ⟨fun hlt => ?_, fun hge => List.take_of_length_le hge⟩⟩
  have ht := getD_mem dT hlt
  have c1 := costT_mem ht
  have c2 := costT_eq (.mk v ks)
  simp only [Tree.val_mk, Tree.kids_mk] at c2
  exact ⟨hlt, by omega, by omega, k + 1, hlt, by omega, wrap_succ hlt (by omega), by omega, copy_push hk hlt⟩)
theorem k_l4Any : ∀ n, SoundC Try.prog (K_l4Any n).1 (K_l4Any n).2
  | 0 => ⟨by exact callable_of (by kernel_rfl), fun x hx => absurd hx.2 (Nat.not_lt_zero _)⟩
  | n + 1 => sound_of hm ((CtxOK.nil.and (K := K_l4Any n) (k_l4Any n)).and k_pick) (fun ((b, p, s, u, d) : AX) => A_l4Any b p s u d) (by kernel_rfl) fun ((b, p, s, u, d) : AX) hl => (by
    obtain ⟨⟨h1, h1', h2, h3⟩, h4⟩ : (Rd 137438953472 b p ∧ p + CB d.toNat ≤ 137438953472 ∧ SgB 5 2 s ∧ d ≤ 4) ∧ d.toNat < n + 1 := hl
    rw [← vc_l4Any n b p s u d]
    simp [-List.getD_eq_getElem?_getD, -List.mem_cons, -Bool.forall_bool, -Bool.exists_bool, and_assoc, peta, tl_inj, ex_1, ex_2, ex_3, ex_4, ex_5, ex_6, ex_7, ex_8, ex_9, ey_2, ey_3, ey_4, ey_5, ey_6, ey_7, ey_8, ey_9]
    have g3 := h1.2.2.1
    have g4 := h1.2.2.2
    obtain ⟨s1, s2⟩ : s.length ≤ 5 ∧ ∀ x ∈ s, x.1.size ≤ 10 ∧ x.2.1.length ≤ 2 := id h2
    have hC := CB_ge d.toNat
    refine ⟨⟨0, by omega, [], Nat.le_refl _, fun x hx => (by cases hx), rfl, rfl, rfl, rfl⟩, fun i ws hi hw hwd => ⟨fun hlt => ?_, fun hge => ⟨fun hnil => ?_, fun hne => ?_⟩⟩⟩
    · have h5 := s2 _ (getD_mem dY hlt)
      have keep : ∃ a_8, a_8 ≤ s.length ∧ ∃ x : List Sym, x.length ≤ a_8 ∧ WdB d x ∧ s.length - a_8 < s.length - i ∧ ws.length = x.length ∧ IntKind.i64.wrap ((i : Int) + 1) = (a_8 : Int) ∧ (x = [] ∨ ws = x) :=
        ⟨i + 1, by omega, ws, by omega, hwd, by omega, rfl, wrap_succ hlt (by omega), .inr rfl⟩
      have push : (d ≤ 1 → (s.getD i dY).2.1 = []) → (ws.length + 1) * 48 ≤ 70368744177664 ∧ ∃ a_8, a_8 ≤ s.length ∧ ∃ x : List Sym, x.length ≤ a_8 ∧ WdB d x ∧ s.length - a_8 < s.length - i ∧ ws.length + 1 = x.length ∧ IntKind.i64.wrap ((i : Int) + 1) = (a_8 : Int) ∧
          IsO (AObj.arr (ws.length + 1) 3 (joinC ws.length (cY ws) (rowsCell [[st (s.getD i dY).fst, ints (s.getD i dY).snd.fst, i64 (s.getD i dY).snd.snd]]))) (arY x) := fun h6 =>
        ⟨by omega, i + 1, by omega, ws ++ [s.getD i dY], by simp; omega, mem_push_imp hwd ⟨h5.1, h5.2, h6⟩, by omega, by simp, wrap_succ hlt (by omega), IsO_join EncN.eY (IsR_row EncN.eY (Is_rowY (Is_ints.2 rfl)))⟩
      exact ⟨hlt, fun he => ⟨fun hd => ⟨hlt, push fun h => absurd h (by omega)⟩, fun hd => ⟨hlt, fun ha => ⟨hlt, push fun _ => ha⟩, fun _ => keep⟩⟩, fun _ => keep⟩
    · refine ⟨⟨#[113]⟩, [], ?_, by omega, rfl, rfl⟩
      show costT (.mk ⟨#[113]⟩ []) ≤ _
      rw [costT_eq]
      simp only [Tree.val_mk, Tree.kids_mk, costTs, List.length_nil]
      have : (⟨#[113]⟩ : ByteArray).size = 1 := rfl
      omega
    · refine ⟨h1.to (by omega) (by omega), fun y hy _ => ?_⟩
      have hw0 : 0 < ws.length := List.length_pos_iff.2 hne
      obtain ⟨y1, y2⟩ := hy (by omega)
      have hyl : y.toNat < ws.length := by omega
      have hwy := hwd _ (getD_mem dY hyl)
      refine ⟨y1, y2, hyl, ⟨(ws.getD y.toNat dY).1, (ws.getD y.toNat dY).2.1, (ws.getD y.toNat dY).2.2, fun x hx => by rw [List.mem_singleton.1 hx]; exact hwy, 0, Nat.zero_le _, [], rfl, Nat.zero_le _, by omega, by simp, rfl, rfl, rfl, rfl, rfl, rfl⟩, fun nm args so j kids q hw1 hj hkl hc q1 q2 => ⟨fun hlt => ?_, fun hge => ?_⟩⟩
      · obtain ⟨a1, a2, a3⟩ := hw1 _ List.mem_cons_self
        dsimp only at a1 a2 a3
        have hd : 2 ≤ d := Classical.byContradiction fun h => by
          have := a3 (by omega)
          rw [this] at hlt; exact absurd hlt (Nat.not_lt_zero _)
        have hdn : d.toNat = (d.toNat - 1) + 1 := by omega
        have hCe : CB d.toNat = 12 + 2 * CB (d.toNat - 1) := by rw [hdn]; rfl
        have hw2 : IntKind.i64.wrap (d - 1) = d - 1 := wrap_small (by omega) (by omega)
        have hdt : (d - 1).toNat = d.toNat - 1 := by omega
        rw [hw2, hdt]
        generalize hCC : CB (d.toNat - 1) = C at *
        have hj2 : (j : Int) * C ≤ C := by
          have : j = 0 ∨ j = 1 := by omega
          rcases this with rfl | rfl <;> simp <;> omega
        have hj3 : ((j + 1 : Nat) : Int) * C = j * C + C := by push_cast; rw [Int.add_mul, Int.one_mul]
        have hcn : (j + 1) * C = j * C + C := Nat.succ_mul j C
        refine ⟨hlt, h1.to (by omega) (by omega), by omega, h2, by omega, by omega, fun nm2 k2 q' ht q3 q4 => ⟨by omega, nm, args, so, hw1, j + 1, hlt, kids ++ [.mk nm2 k2], by simp; omega, ?_, by omega, by rw [hj3]; omega, by omega, wrap_succ hlt (by omega), rfl, rfl, rfl, rfl, by simp, IsO_join EncN.eT (IsR_row EncN.eT (Is_rowT (Is_terms.2 rfl)))⟩⟩
        have ht' : costT (.mk nm2 k2) ≤ C := ht
        rw [costTs_snoc, hcn]
        omega
      · obtain ⟨a1, a2, a3⟩ := hw1 _ List.mem_cons_self
        dsimp only at a1 a2 a3
        have c2 := costT_eq (.mk nm kids)
        simp only [Tree.val_mk, Tree.kids_mk] at c2
        by_cases hd : d ≤ 1
        · have h0 : j = 0 := by have := a3 hd; rw [this] at hj; simpa using hj
          subst h0
          refine ⟨nm, kids, ?_, q1, ?_, rfl, rfl, .inr rfl⟩
          · show costT (.mk nm kids) ≤ _
            simp at hc
            omega
          · simp at q2
            omega
        · have hdn : d.toNat = (d.toNat - 1) + 1 := by omega
          have hCe : CB d.toNat = 12 + 2 * CB (d.toNat - 1) := by rw [hdn]; rfl
          have hj2 : j * CB (d.toNat - 1) ≤ 2 * CB (d.toNat - 1) := Nat.mul_le_mul_right _ (by omega)
          have hj3 : (j : Int) * (CB (d.toNat - 1) : Int) = ((j * CB (d.toNat - 1) : Nat) : Int) := by push_cast; rfl
          rw [hj3] at q2
          generalize hm : j * CB (d.toNat - 1) = M at *
          refine ⟨nm, kids, ?_, q1, ?_, rfl, rfl, .inr rfl⟩
          · show costT (.mk nm kids) ≤ _
            omega
          · omega)
theorem k_lAny : SoundC Try.prog K_lAny.1 K_lAny.2 := SoundC.famE (fun (x : AX) => x.2.2.2.2.toNat) k_l4Any
set_option maxHeartbeats 8000000 in
theorem g_l4Some (b : List Int) (p : Int) (s : Pl.Sig) (h1 : Rd 68719476736 b p) (h2 : SgB 5 2 s) : GoalW Try.prog [K_pick, K_num, K_of, K_lAny, K_l4CopyO] ([]) K_l4Some.1 K_l4Some.2 (b, p, s) := GoalW.of (vc_l4Some b p s) (by
  simp (maxSteps := 2000000) [-List.getD_eq_getElem?_getD, -List.mem_cons, -Bool.forall_bool, -Bool.exists_bool, and_assoc, peta, tl_inj, ex_1, ex_2, ex_3, ex_4, ex_5, ex_6, ex_7, ex_8, ex_9, ey_2, ey_3, ey_4, ey_5, ey_6, ey_7, ey_8, ey_9]
  have g3 := h1.2.2.1
  have g4 := h1.2.2.2
  refine ⟨h1.to (by omega) (by omega), fun y _ _ => ⟨h1.to (by omega) (by omega), fun d hd => ?_⟩⟩
  have hC : CB d.toNat ≤ 372 ∧ d ≤ 4 := by
    simp at hd
    rcases hd with rfl | rfl | rfl | rfl <;> exact ⟨by decide, by decide⟩
  refine ⟨h1.to (by omega) (by omega), by omega, h2, hC.2, fun a ks q ht q1 q2 => ⟨h1.to (by omega) (by omega), fun z _ _ => ?_⟩⟩
  have ht' : costT (.mk a ks) ≤ CB d.toNat := ht
  have c2 := costT_eq (.mk a ks)
  simp only [Tree.val_mk, Tree.kids_mk] at c2
  have c3 : ∀ (v : ByteArray) (l : List Tm), costT (.mk v l) = v.size + l.length + costTs l := fun v l => by
    have := costT_eq (.mk v l)
    simpa only [Tree.val_mk, Tree.kids_mk] using this
  have h0j : LitR 2 eT dT [[st a, terms ks]] [Tree.mk a ks] := LitR.nil.cons (Is_rowT (Is_terms.2 rfl))
  have h1j := (Rds.cel (d := dT) EncN.eT ks).join h0j.rds
  have h2j := (Rds.cel (d := dT) EncN.eT ks).join (h0j.cons (r := [st a, terms ks]) (v := Tree.mk a ks) (Is_rowT (Is_terms.2 rfl))).rds
  refine ⟨fun _ => ⟨h1.to (by omega) (by omega), fun nm hnm => ⟨?_, by omega, by omega⟩⟩, fun _ => ⟨fun _ => ?_, fun _ => ⟨fun _ => ?_, fun _ => ⟨?_, by omega, by omega⟩⟩⟩⟩
  · have := namesT nm hnm
    show costT (.mk nm ks) ≤ 1500
    rw [c3]; omega
  · refine ⟨a, ks, by omega, rfl, rfl, .inr rfl, by omega, by omega, a, ks ++ [Tree.mk a ks], ?_, by omega, by omega, rfl, h1j.is⟩
    show costT (.mk a (ks ++ [.mk a ks])) ≤ 1500
    rw [c3, costTs_snoc, List.length_append, List.length_singleton]; omega
  · refine ⟨a, ks, by omega, rfl, rfl, .inr rfl, a, ks, by omega, rfl, rfl, .inr rfl, by omega, by omega, a, ks ++ [Tree.mk a ks, Tree.mk a ks], ?_, by omega, by omega, rfl, h2j.is⟩
    show costT (.mk a (ks ++ [.mk a ks, .mk a ks])) ≤ 1500
    have e : ks ++ [.mk a ks, .mk a ks] = (ks ++ [.mk a ks]) ++ [.mk a ks] := by simp
    rw [e, c3, costTs_snoc, costTs_snoc, List.length_append, List.length_append, List.length_singleton]; omega
  · show costT (.mk a ks) ≤ 1500
    omega)
theorem k_l4Some : SoundC Try.prog K_l4Some.1 K_l4Some.2 := sound_ofW hm (((((CtxOK.nil.and k_l4CopyO).and k_lAny).and k_of).and k_num).and k_pick) (fun _ => []) (by kernel_rfl) fun ((b, p, s) : List Int × Int × Pl.Sig) hb => g_l4Some b p s hb.1 hb.2
theorem Is_rowsI {α : Type} {k : Nat} {e : α → Nat → AV} {d : α} (hk : 0 < k) {v : α} {m : List α} {r : List AV} (h : ∀ v', (∀ j, j < k → Is (r.getD j .any) (e v' j)) ↔ v = v') :
    Is (.lit 1 k (rowsCell [r])) (.sl m.length k fun i j => e (m.getD i d) j) ↔ [v] = m := by
  constructor
  · intro h'
    rw [Is] at h'
    obtain ⟨h1, h2⟩ := h'
    match m, h1 with
    | [x], _ =>
      congr 1
      refine (h x).1 fun j hj => ?_
      rcases h2 with h2 | ⟨_, h2⟩
      · omega
      · exact h2 0 (by omega) j hj
  · rintro rfl
    refine Is_lit_of rfl fun i hi j hj => ?_
    have : i = 0 := by simpa using hi
    subst this
    exact (h v).2 rfl j hj
@[simp] theorem terms_lit1 {a : ByteArray} {ks m : List Tm} : Is (.lit 1 2 (rowsCell [[st a, terms ks]])) (terms m) ↔ [Tree.mk a ks] = m := Is_rowsI (e := eT) (d := dT) (by decide) fun v' => by
  constructor
  · intro h
    have h0 : Is (st a) (st v'.val) := h 0 (by decide)
    have h1 : Is (terms ks) (kidsT v') := h 1 (by decide)
    exact Tree.ext (Is_st.1 h0) (Is_terms_kidsT.1 h1)
  · rintro rfl j hj
    exact Is_rowT (Is_terms.2 rfl) j hj
@[simp] theorem terms_lit0 {a : ByteArray} {q : Nat} {c : Nat → Nat → AV} {m : List Tm} : Is (.lit 1 2 (rowsCell [[st a, .lit 0 q c]])) (terms m) ↔ [Tree.mk a []] = m := Is_rowsI (e := eT) (d := dT) (by decide) fun v' => by
  constructor
  · intro h
    have h0 : Is (st a) (st v'.val) := h 0 (by decide)
    have h1 : Is (.lit 0 q c) (kidsT v') := h 1 (by decide)
    unfold kidsT at h1
    rw [Is] at h1
    exact Tree.ext (Is_st.1 h0) (List.eq_nil_of_length_eq_zero h1.1.symm).symm
  · rintro rfl j hj
    exact Is_rowT (terms_nil.2 rfl) j hj
end Cg

/-
  The codes' contracts: drawn atoms. No condition.
-/
set_option linter.unusedVariables false
set_option linter.unusedSimpArgs false
set_option maxRecDepth 100000
namespace Cg
open Go Go.Proofs Pl
theorem _root_.Pl.PutB.nil {ns : List Tm} {t : Tm} {n : Nat} : PutB ns t n [] [] := ⟨Nat.zero_le _, rfl, fun u hu => by cases hu⟩
theorem _root_.Pl.PutB.push {ns : List Tm} {t u : Tm} {n n' : Nat} {ms : List Tm} {ts : List Int} {c : Int} (h : PutB ns t n ms ts) (hu : u ∈ ns ∨ u = t) (hn : n + 1 ≤ n') : PutB ns t n' (ms ++ [u]) (ts ++ [c]) :=
  ⟨by have := h.1; simp; omega, by have := h.2.1; simp; omega, mem_push_imp h.2.2 hu⟩
theorem _root_.Pl.PutB.mono {ns : List Tm} {t : Tm} {n n' : Nat} {ms : List Tm} {ts : List Int} (h : PutB ns t n ms ts) (hn : n ≤ n') : PutB ns t n' ms ts := ⟨Nat.le_trans h.1 hn, h.2⟩
theorem _root_.Pl.AtB.mono {n n' : Nat} {x : Atm} (h : AtB n x) (hn : n ≤ n') : AtB n' x := ⟨h.1, h.2.1, Nat.le_trans h.2.2.1 hn, Nat.le_trans h.2.2.2.1 hn, h.2.2.2.2⟩
theorem costTs_le {c : Nat} : ∀ {l : List Tm}, (∀ t ∈ l, costT t ≤ c) → costTs l ≤ l.length * c
  | [], _ => Nat.zero_le _
  | t :: ts, h => by
    have h1 := h t List.mem_cons_self
    have h2 := costTs_le (l := ts) fun u hu => h u (List.mem_cons_of_mem _ hu)
    rw [costTs, List.length_cons, Nat.succ_mul]; omega
theorem at_sm {n : Nat} {x : Atm} (h : AtB n x) (hn : n ≤ 100 := by decide) : costA x ≤ 1048576 := by
  obtain ⟨h1, h2, h3, h4, h5⟩ := h
  have h6 := costTs_le h5
  have h7 : x.2.2.2.1.length * 400 ≤ 100 * 400 := Nat.mul_le_mul_right _ (by omega)
  unfold costA; omega
theorem Rds.tm (a : ByteArray) (ks : List Tm) : Rds 2 eT dT 1 (rowsCell [[st a, terms ks]]) [.mk a ks] := Rds.row (terms_row a ks)
theorem Rds.tk (t : Tm) : Rds 2 eT dT 1 (rowsCell [[st (Tree.val t), kidsT t]]) [t] := Rds.row (IsR_row EncN.eT (Is_rowK rfl (Is_kidsT2.2 rfl)))
theorem Rds.int (a : Int) : Rds 1 eI 0 1 (rowsCell [[i64 a]]) [a] := Rds.row (ints_row a)
set_option maxHeartbeats 8000000 in
theorem g_l6Put (a : Atm) (v : ByteArray) (ks : List Tm) (n : Int) (h1 : SmA a) (h2 : SmT (.mk v ks)) (h3 : a.2.2.2.1.length ≤ 100) (h4 : a.2.2.2.2.1.length = a.2.2.2.1.length) : GoalW Try.prog [K_lText] (A_l6Put a v ks n) K_l6Put.1 K_l6Put.2 (a, (v, ks), n) := GoalW.of (vc_l6Put a v ks n) (by
  simp (maxSteps := 2000000) [-List.getD_eq_getElem?_getD, -List.mem_cons, -Bool.forall_bool, -Bool.exists_bool, and_assoc, peta, tl_inj, ex_1, ex_2, ex_3, ex_4, ex_5, ex_6, ex_7, ex_8, ex_9, ey_2, ey_3, ey_4, ey_5, ey_6, ey_7, ey_8, ey_9]
  refine ⟨⟨0, Nat.zero_le _, false, [], [], PutB.nil, rfl, rfl, rfl, rfl, rfl⟩, fun i d ms ts hi hp => ⟨fun hlt => ?_, fun hge => ?_⟩⟩
  · have ht := getD_mem dT hlt
    have c1 : costT (a.2.2.2.1.getD i dT) ≤ 1048576 := by
      have := costT_mem ht
      have h1' : costA a ≤ 1048576 := h1
      unfold costA at h1'; omega
    have p1 := hp.1
    have p2 := hp.2.1
    have hd1 : (if d = true then 1 else 0) ≤ 1 := by split <;> omega
    have w := wrap_succ hlt (by omega)
    have jt := (Rds.cel (d := dT) EncN.eT ms).join (Rds.tk (a.2.2.2.1.getD i dT))
    have ji := (Rds.cel (d := (0 : Int)) EncN.eI ts).join (Rds.int (a.2.2.2.2.1.getD i 0))
    refine ⟨hlt, c1, fun hd => ⟨h2, fun _ => ⟨by omega, by omega, h2, fun _ => ⟨hlt, by omega, by omega, by omega, i + 1, hlt, true, ms ++ [.mk v ks] ++ [a.2.2.2.1.getD i dT], ts ++ [n] ++ [a.2.2.2.2.1.getD i 0], ?_, by omega, rfl, w, by simp, by simp, ?_, ?_⟩, fun _ => ⟨i + 1, hlt, true, ms ++ [.mk v ks], ts ++ [n], ?_, by omega, rfl, w, by simp, by simp, ?_, ?_⟩⟩,
      fun _ => ⟨h2, fun _ => ⟨hlt, by omega, by omega, by omega, i + 1, hlt, d, ms ++ [a.2.2.2.1.getD i dT], ts ++ [a.2.2.2.2.1.getD i 0], ?_, by omega, rfl, w, by simp, by simp, jt.iso, ji.iso⟩, fun _ => ⟨i + 1, hlt, d, ms, ts, hp.mono (by omega), by omega, rfl, w, rfl, rfl, .inr rfl, .inr rfl⟩⟩⟩,
      fun hd => ⟨h2, fun _ => ⟨hlt, by omega, by omega, by omega, i + 1, hlt, d, ms ++ [a.2.2.2.1.getD i dT], ts ++ [a.2.2.2.2.1.getD i 0], ?_, by omega, rfl, w, by simp, by simp, jt.iso, ji.iso⟩, fun _ => ⟨i + 1, hlt, d, ms, ts, hp.mono (by omega), by omega, rfl, w, rfl, rfl, .inr rfl, .inr rfl⟩⟩⟩
    · subst hd; exact (hp.push (n' := i + 1) (.inr rfl) (by simp)).push (.inl ht) (by simp)
    · exact (((Rds.cel (d := dT) EncN.eT ms).join (Rds.tm v ks)).join (Rds.tk _)).iso
    · exact (((Rds.cel (d := (0 : Int)) EncN.eI ts).join (Rds.int n)).join (Rds.int _)).iso
    · subst hd; exact hp.push (.inr rfl) (by simp)
    · exact ((Rds.cel (d := dT) EncN.eT ms).join (Rds.tm v ks)).iso
    · exact ((Rds.cel (d := (0 : Int)) EncN.eI ts).join (Rds.int n)).iso
    · exact hp.push (.inl ht) (by omega)
    · exact hp.push (.inl ht) (by omega)
  · have p1 := hp.1
    have p2 := hp.2.1
    have hd1 : (if d = true then 1 else 0) ≤ 1 := by split <;> omega
    refine ⟨fun hd => ⟨by omega, by omega, ms ++ [Tree.mk v ks], ts ++ [n], ?_, rfl, by simp, by simp, ((Rds.cel (d := dT) EncN.eT ms).join (Rds.tm v ks)).iso, ((Rds.cel (d := (0 : Int)) EncN.eI ts).join (Rds.int n)).iso⟩, fun hd => ⟨ms, ts, hp.mono (by omega), rfl, rfl, rfl, .inr rfl, .inr rfl⟩⟩
    subst hd
    exact hp.push (.inr rfl) (by simp; omega))
theorem k_l6Put : SoundC Try.prog K_l6Put.1 K_l6Put.2 := sound_ofW hm (CtxOK.nil.and k_lText) (fun ((a, (v, ks), n) : Atm × TP × Int) => A_l6Put a v ks n) (by kernel_rfl) fun ((a, (v, ks), n) : Atm × TP × Int) hb => g_l6Put a v ks n hb.1 hb.2.1 hb.2.2.1 hb.2.2.2
theorem sl0 {c : Nat → Nat → AV} {m : List Tm} : Is (.sl 0 2 c) (terms m) ↔ m = [] := by
  unfold terms
  rw [Is]
  constructor
  · intro h; exact List.eq_nil_of_length_eq_zero h.1.symm
  · rintro rfl; exact ⟨rfl, .inl rfl⟩
theorem noc : costT (.mk ByteArray.empty []) ≤ 1500 := by
  rw [costT_eq]
  decide
theorem CB_le2 {d : Nat} (h : d ≤ 2) : CB d ≤ 84 := by
  have : d = 0 ∨ d = 1 ∨ d = 2 := by omega
  rcases this with rfl | rfl | rfl <;> decide
set_option maxHeartbeats 8000000 in
theorem g_l6Any (b : List Int) (p : Int) (s : Pl.Sig) (h1 : Rd 68719476736 b p) (h2 : SgB 5 2 s) : GoalW Try.prog [K_pick, K_num, K_lAny, K_l6Put] (A_l6Any b p s) K_l6Any.1 K_l6Any.2 (b, p, s) := GoalW.of (vc_l6Any b p s) (by
  simp (maxSteps := 2000000) [-List.getD_eq_getElem?_getD, -List.mem_cons, -Bool.forall_bool, -Bool.exists_bool, and_assoc, peta, tl_inj, ex_1, ex_2, ex_3, ex_4, ex_5, ex_6, ex_7, ex_8, ex_9, ey_2, ey_3, ey_4, ey_5, ey_6, ey_7, ey_8, ey_9]
  have g3 := h1.2.2.1
  have g4 := h1.2.2.2
  refine ⟨h1.to (by omega) (by omega), fun y _ _ => ⟨fun _ => ⟨h1.to (by omega) (by omega), fun so _ _ => ⟨h1.to (by omega) (by omega), fun d hd => ?_⟩⟩, fun _ => ⟨h1.to (by omega) (by omega), fun bd _ => ⟨h1.to (by omega) (by omega), fun sc _ _ => ⟨h1.to (by omega) (by omega), fun k hk => ?_⟩⟩⟩⟩⟩
  · have hC : CB d.toNat ≤ 84 ∧ d ≤ 4 := by
      simp at hd
      exact ⟨CB_le2 (by omega), by omega⟩
    refine ⟨h1.to (by omega) (by omega), by omega, h2, hC.2, fun v ks q ht q1 q2 => ⟨h1.to (by omega) (by omega), fun d' hd' => ?_⟩⟩
    have hC' : CB d'.toNat ≤ 84 ∧ d' ≤ 4 := by
      simp at hd'
      exact ⟨CB_le2 (by omega), by omega⟩
    refine ⟨h1.to (by omega) (by omega), by omega, h2, hC'.2, fun v' ks' q' ht' q3 q4 => ?_⟩
    have t1 : costT (.mk v ks) ≤ CB d.toNat := ht
    have t2 : costT (.mk v' ks') ≤ CB d'.toNat := ht'
    exact ⟨1, v, ks, v', ks', [], [], 0, false, ⟨by show costT (.mk v ks) ≤ 1500; omega, by show costT (.mk v' ks') ≤ 1500; omega, Nat.zero_le _, Nat.zero_le _, fun t ht => by cases ht⟩, q', by omega, by omega, rfl, rfl, rfl, rfl, rfl, rfl, rfl, rfl, rfl, rfl, rfl, rfl⟩
  · simp at hk
    refine ⟨⟨k, by omega, by omega, [], by simp; omega, [], rfl, fun t ht => (by cases ht), by omega, by omega, rfl, rfl, rfl, rfl, rfl, rfl⟩, fun k ms ts bd sc q k0 k3 hm ht hc q1 q2 => ⟨fun hk => ⟨h1.to (by omega) (by omega), fun d hd => ?_⟩, fun hk => ?_⟩⟩
    · have hC : CB d.toNat ≤ 84 ∧ d ≤ 4 := by
        simp at hd
        exact ⟨CB_le2 (by omega), by omega⟩
      refine ⟨h1.to (by omega) (by omega), by omega, h2, hC.2, fun v ks q' hv q3 q4 => ⟨h1.to (by omega) (by omega), fun c _ => ?_⟩⟩
      have hv' : costT (.mk v ks) ≤ CB d.toNat := hv
      have hs : costA (2, (ByteArray.empty, []), (ByteArray.empty, []), ms, ts, bd, sc) ≤ 1048576 := at_sm (n := 3) ⟨noc, noc, by dsimp only; omega, by dsimp only; omega, hc⟩
      refine ⟨2, ByteArray.empty, [], ByteArray.empty, [], ms, ts, bd, sc, hs, v, ks, by omega, by omega, ht, rfl, rfl, sl0.2 rfl, rfl, sl0.2 rfl, rfl, rfl, rfl, rfl, rfl, rfl, fun ms' ts' hp => ⟨k - 1, by omega, by omega, ms', by have := hp.1; omega, ts', hp.2.1, fun t ht => ?_, by omega, by omega, by omega, wrap_small (by omega) (by omega), rfl, rfl, sl0.2 rfl, rfl, sl0.2 rfl, rfl, rfl, .inr rfl, .inr rfl⟩⟩
      rcases hp.2.2 t ht with e | e
      · exact hc t e
      · rw [e]; omega
    · exact ⟨2, ByteArray.empty, [], ByteArray.empty, [], ms, ts, bd, sc, ⟨noc, noc, by dsimp only; omega, by dsimp only; omega, hc⟩, q, by omega, by omega, rfl, rfl, sl0.2 rfl, rfl, sl0.2 rfl, rfl, rfl, rfl, rfl, rfl, .inr rfl, .inr rfl⟩)
theorem k_l6Any : SoundC Try.prog K_l6Any.1 K_l6Any.2 := sound_ofW hm ((((CtxOK.nil.and k_l6Put).and k_lAny).and k_num).and k_pick) (fun ((b, p, s) : BX) => A_l6Any b p s) (by kernel_rfl) fun ((b, p, s) : BX) hb => g_l6Any b p s hb.1 hb.2
set_option maxHeartbeats 8000000 in
theorem g_l6Some (b : List Int) (p : Int) (s : Pl.Sig) (h1 : Rd 34359738368 b p) (h2 : SgB 5 2 s) : GoalW Try.prog [K_l6Any, K_pick, K_num, K_l4Some, K_lAny] ([]) K_l6Some.1 K_l6Some.2 (b, p, s) := GoalW.of (vc_l6Some b p s) (by
  simp (maxSteps := 2000000) [-List.getD_eq_getElem?_getD, -List.mem_cons, -Bool.forall_bool, -Bool.exists_bool, and_assoc, peta, tl_inj, ex_1, ex_2, ex_3, ex_4, ex_5, ex_6, ex_7, ex_8, ex_9, ey_2, ey_3, ey_4, ey_5, ey_6, ey_7, ey_8, ey_9]
  have g3 := h1.2.2.1
  have g4 := h1.2.2.2
  refine ⟨h1.to (by omega) (by omega), h2, fun kd av ak bv bk ms ts bd sc q ha q1 q2 => ⟨h1.to (by omega) (by omega), fun y _ _ => ⟨fun _ => ⟨h1.to (by omega) (by omega), fun z hz => ?_⟩, fun _ => ⟨fun _ => ⟨h1.to (by omega) (by omega), fun z hz => ?_⟩, fun _ => ⟨fun _ => ⟨h1.to (by omega) (by omega), h2, fun v ks q' hv q3 q4 => ?_⟩, fun _ => ⟨fun _ => ⟨fun hl => ⟨h1.to (by omega) (by omega), fun z hz => ⟨hl, ?_⟩⟩, fun hn => ?_⟩, fun _ => ⟨fun _ => ⟨h1.to (by omega) (by omega), by have := @CB_le2 1 (by decide); omega, h2, fun v ks q' hv q3 q4 => ⟨?_, ?_⟩⟩, fun _ => ?_⟩⟩⟩⟩⟩⟩⟩
  all_goals obtain ⟨t1, t2, t3, t4, t5⟩ := id ha
  · exact ⟨z, av, ak, bv, bk, ms, ts, bd, sc, ⟨t1, t2, Nat.le_succ_of_le t3, Nat.le_succ_of_le t4, t5⟩, _, by omega, by omega, rfl, rfl, rfl, rfl, rfl, rfl, rfl, rfl, rfl, rfl⟩
  · exact ⟨kd, av, ak, bv, bk, ms, ts, z, sc, ⟨t1, t2, Nat.le_succ_of_le t3, Nat.le_succ_of_le t4, t5⟩, _, by omega, by omega, rfl, rfl, rfl, rfl, rfl, rfl, rfl, rfl, rfl, rfl⟩
  · exact ⟨kd, v, ks, bv, bk, ms, ts, bd, sc, ⟨hv, t2, Nat.le_succ_of_le t3, Nat.le_succ_of_le t4, t5⟩, _, by omega, by omega, rfl, rfl, rfl, rfl, rfl, rfl, rfl, rfl, rfl, rfl⟩
  · exact ⟨kd, av, ak, bv, bk, ms, ts.set 0 z, bd, sc, ⟨t1, t2, Nat.le_succ_of_le t3, by dsimp only; rw [List.length_set]; exact Nat.le_succ_of_le t4, t5⟩, _, by omega, by omega, rfl, rfl, rfl, rfl, rfl, rfl, Is_sl_of (by simp) (IsR_storeG (IsR_cel EncN.eI) rfl fun j hj => by
      match j, hj with
      | 0, _ => exact Is_i64.2 rfl), rfl, rfl, rfl⟩
  · exact ⟨kd, av, ak, bv, bk, ms, ts, bd, sc, ha.mono (by decide), _, by omega, by omega, rfl, rfl, rfl, rfl, rfl, rfl, rfl, rfl, rfl, rfl⟩
  · dsimp only at t3; omega
  · have hC := @CB_le2 1 (by decide)
    have hv' : costT (.mk v ks) ≤ CB 1 := hv
    exact ⟨kd, av, ak, bv, bk, ms ++ [Tree.mk v ks], ts, bd, sc, ⟨t1, t2, by dsimp only at t3 ⊢; simp; omega, Nat.le_succ_of_le t4, mem_push_imp t5 (by omega)⟩, _, by omega, by omega, rfl, rfl, rfl, rfl, rfl, ((Rds.cel (d := dT) EncN.eT ms).join (Rds.tm v ks)).is, rfl, rfl, rfl, rfl⟩
  · exact ⟨kd, av, ak, bv, bk, ms, ts, bd, sc, ha.mono (by decide), _, by omega, by omega, rfl, rfl, rfl, rfl, rfl, rfl, rfl, rfl, rfl, rfl⟩)
theorem k_l6Some : SoundC Try.prog K_l6Some.1 K_l6Some.2 := sound_ofW hm (((((CtxOK.nil.and k_lAny).and k_l4Some).and k_num).and k_pick).and k_l6Any) (fun _ => []) (by kernel_rfl) fun ((b, p, s) : BX) hb => g_l6Some b p s hb.1 hb.2
end Cg

/-
  Plain laws of literals in models: strict and weak bounds, equality turned round, the model of no rows, parts of sums. No condition.
-/
set_option linter.unusedVariables false
set_option linter.unusedSimpArgs false
namespace Pl
open Go Cg
theorem numOk_less {p : Option Tm} {t : Tm} {ts : List Tm} {ns : List Int} (hp : above p t = true) (h : numOk (some t) ts ns = true) : numOk p ts ns = true := by
  cases ts with
  | nil => rfl
  | cons u us =>
    cases ns with
    | nil => rfl
    | cons n ns =>
      simp only [numOk, Bool.and_eq_true] at h ⊢
      refine ⟨⟨h.1.1, ?_⟩, h.2⟩
      cases p with
      | none => rfl
      | some q => exact sLess_trans hp h.1.2
theorem numOk_del : ∀ (ts : List Tm) (ns : List Int) (p : Option Tm) (k : Nat), numOk p ts ns = true → numOk p (ts.take k ++ ts.drop (k + 1)) (ns.take k ++ ns.drop (k + 1)) = true
  | [], ns, p, k, _ => by simp [numOk]
  | t :: ts, [], p, k, _ => by simp [numOk]
  | t :: ts, n :: ns, p, 0, h => by
    simp only [numOk, Bool.and_eq_true] at h
    exact numOk_less h.1.2 h.2
  | t :: ts, n :: ns, p, k + 1, h => by
    simp only [numOk, Bool.and_eq_true] at h
    show numOk p (t :: (ts.take k ++ ts.drop (k + 1))) (n :: (ns.take k ++ ns.drop (k + 1))) = true
    simp only [numOk, Bool.and_eq_true]
    exact ⟨h.1, numOk_del ts ns (some t) k h.2⟩
/-- A sum without one of its parts. -/
theorem sum_del {s : Sig} {a b : TP} {ns : List Tm} {ts : List Int} {w : Int} {c : Bool} (h : atomOk s (2, a, b, ns, ts, w, c) = true) : ns.length = ts.length ∧ ns.length ≤ 4 ∧
    ∀ k, k < ns.length → 1 < ns.length → atomOk s (2, a, b, ns.take k ++ ns.drop (k + 1), ts.take k ++ ts.drop (k + 1), w, c) = true := by
  simp only [atomOk, atomRight, sumRight, sumHead, Bool.and_eq_true, ↓reduceIte, if_neg (show ¬ (2 : Int) = 1 by decide), decide_eq_true_eq, List.all_eq_true] at h ⊢
  obtain ⟨⟨h1, ⟨⟨⟨⟨⟨⟨a1, a2⟩, a3⟩, a4⟩, a5⟩, a6⟩, a7⟩, h2⟩, h3⟩ := h
  refine ⟨a3, a5, fun k hk h0 => ⟨⟨h1, ⟨⟨⟨⟨⟨⟨a1, a2⟩, ?_⟩, ?_⟩, ?_⟩, a6⟩, a7⟩, numOk_del ns ts none k h2⟩, fun x hx => h3 x ((List.mem_append.1 hx).elim List.mem_of_mem_take List.mem_of_mem_drop)⟩⟩
  all_goals
    simp only [List.length_append, List.length_take, List.length_drop]
    omega
end Pl

/-
  The codes' contracts: the law that parts of sums are sums. No condition.
-/
set_option linter.unusedVariables false
set_option linter.unusedSimpArgs false
set_option maxRecDepth 100000
namespace Cg
open Go Go.Proofs Pl
set_option maxHeartbeats 8000000 in
theorem g_DrawAtomOk (b : List Int) (h1 : Sz b) (h2 : Byt b) : GoalW Try.prog [K_l16Open, K_l4Sig, K_l6Some, K_pick, K_l4Bent] ([]) K_DrawAtomOk.1 K_DrawAtomOk.2 (b) := GoalW.of (vc_DrawAtomOk b) (by
  simp (maxSteps := 2000000) [-List.getD_eq_getElem?_getD, -List.mem_cons, -Bool.forall_bool, -Bool.exists_bool, and_assoc, peta, tl_inj, ex_1, ex_2, ex_3, ex_4, ex_5, ex_6, ex_7, ex_8, ex_9, ey_2, ey_3, ey_4, ey_5, ey_6, ey_7, ey_8, ey_9]
  exact ⟨by omega, h2, fun y hr => ⟨hr.to (by omega) (by omega), fun s hs => ⟨hr.to (by omega) (by omega), hs, fun kd av ak bv bk ms ts bd sc q ha q1 q2 => ⟨hr.to (by omega) (by omega), fun z _ _ => ⟨fun _ =>
    ⟨y, q + 1, hr.to (by omega) (by omega), s, 7, 2, hs.mono (by decide) (by decide), by decide, by decide, by decide, rfl, rfl, rfl, fun s2 q2' hs2 e1 e2 =>
      ⟨y, q2', hr.to (by omega) (by omega), s2, 8, 3, hs2, by decide, by decide, by decide, rfl, rfl, rfl, fun s3 q3 hs3 e3 e4 => ⟨s3, hs3.mono (by decide) (by decide), kd, av, ak, bv, bk, ms, ts, bd, sc, ha, rfl, rfl, rfl, rfl, rfl, rfl, rfl, rfl, rfl, rfl⟩⟩⟩,
    fun _ => ⟨s, hs.mono (by decide) (by decide), kd, av, ak, bv, bk, ms, ts, bd, sc, ha, rfl, rfl, rfl, rfl, rfl, rfl, rfl, rfl, rfl, rfl⟩⟩⟩⟩⟩⟩)
theorem k_DrawAtomOk : SoundC Try.prog K_DrawAtomOk.1 K_DrawAtomOk.2 := sound_ofW hm (((((CtxOK.nil.and k_l4Bent).and k_pick).and k_l6Some).and k_l4Sig).and k_l16Open) (fun (b : List Int) => []) (by kernel_rfl) fun (b : List Int) hb => g_DrawAtomOk b hb.1 hb.2
set_option maxHeartbeats 8000000 in
theorem g_yAtomSum (b : List Int) (hb : Byt b) : GoalW Try.prog [K_DrawAtomOk, K_iAtomOk, K_sAtomOk, K_iAtomSame] (A_yAtomSum) K_yAtomSum.1 K_yAtomSum.2 (b) := GoalW.of (vc_yAtomSum b) (by
  simp (maxSteps := 2000000) [-List.getD_eq_getElem?_getD, -List.mem_cons, -Bool.forall_bool, -Bool.exists_bool, and_assoc, peta, tl_inj, ex_1, ex_2, ex_3, ex_4, ex_5, ex_6, ex_7, ex_8, ex_9, ey_2, ey_3, ey_4, ey_5, ey_6, ey_7, ey_8, ey_9]
  refine fun l1 => ⟨by omega, hb, fun s kd av ak bv bk ms ts bd sc hs ha => ?_⟩
  refine ⟨sg_sm hs, at_sm ha, sg_sm hs, at_sm ha, fun _ => ⟨sg_sm hs, at_sm ha⟩, fun hok => ⟨fun _ => ⟨sg_sm hs, at_sm ha⟩, fun h2 => ⟨⟨s, hs, kd, av, ak, bv, bk, ms, ts, bd, sc, ha, h2, hok, 0, by omega, rfl, rfl, rfl, rfl, rfl, rfl, rfl, rfl, rfl, rfl, rfl⟩, ?_⟩⟩⟩
  clear hok h2 ha hs
  intro s kd av ak bv bk ms ts bd sc i hs ha h2 hok hi
  subst h2
  obtain ⟨e1, e2, e3⟩ := sum_del hok
  refine ⟨fun hlt => ⟨fun h1 => ?_, fun _ => by omega⟩, fun _ => by omega⟩
  rw [wrap_succ hlt (by omega), Int.toNat_natCast]
  have hT := ((Rds.take (d := dT) EncN.eT (l := ms) (x := i) (by omega)).join (Rds.drop EncN.eT ms (i + 1))).is
  have hI := ((Rds.take (d := (0 : Int)) EncN.eI (l := ts) (x := i) (by omega)).join (Rds.drop EncN.eI ts (i + 1))).is
  obtain ⟨t1, t2, t3, t4, t5⟩ := id ha
  have del : AtB 4 (2, (av, ak), (bv, bk), ms.take i ++ ms.drop (i + 1), ts.take i ++ ts.drop (i + 1), bd, sc) := ⟨t1, t2, by dsimp only; simp; omega, by dsimp only; simp; omega, fun t ht => t5 t ((List.mem_append.1 ht).elim List.mem_of_mem_take List.mem_of_mem_drop)⟩
  have hne : ¬ ms = ms.take i ++ ms.drop (i + 1) := fun e => by
    have := congrArg List.length e
    simp at this; omega
  exact ⟨by omega, by omega, by omega, by omega, by omega, by omega, by omega, by omega, by omega, by omega, _, hT, _, hI, sg_sm hs, at_sm del, e3 i hlt (by omega), fun _ => ⟨_, hT, _, hI, at_sm ha, fun e => absurd e hne, fun _ => ⟨s, hs, 2, av, ak, bv, bk, ms, ts, bd, sc, ha, rfl, hok, i + 1, hlt, by omega, rfl, rfl, rfl, rfl, rfl, rfl, rfl, rfl, rfl, rfl, rfl⟩⟩⟩)
theorem k_yAtomSum : SoundC Try.prog K_yAtomSum.1 K_yAtomSum.2 := sound_ofW hm ((((CtxOK.nil.and k_iAtomSame).and k_sAtomOk).and k_iAtomOk).and k_DrawAtomOk) (fun (b : List Int) => A_yAtomSum) (by kernel_rfl) fun (b : List Int) hb => g_yAtomSum b hb
end Cg
