/-
  What is left to show of each function's code, printed by a program: Sort. No condition.
-/
import Derived.Test.YtjhiaobcbbnhnaaGreatSortDefs
import Derived.Test.YtjhiaobcbbnhnaaGreatProg
set_option maxRecDepth 100000
set_option linter.unusedVariables false
namespace Cg
open Go Go.Proofs
theorem vc_szTerm (n : Nat) (a : ByteArray) (b : List Pl.Tm) (k : Int) : (condP (Decidable.decide (IntKind.i64.wrap (k - (↑a.size : Int)) < (0 : Int))) ((-1 : Int) = Pl.lim (k - (↑(Pl.costT (Pl.Tree.mk a b)) : Int)))
 (Exists fun (x : List Pl.Tm × Int) =>
 (Is (terms b) (terms x.fst) ∧ IntKind.i64.wrap (k - (↑a.size : Int)) = x.snd ∧ True) ∧
 (((Ml x.fst ∧ ∀ (t : Pl.Tm), t ∈ x.fst → MlT t) ∧ Fu x.snd) ∧ Pl.manyL x.fst < n) ∧
 condP (Decidable.decide (Pl.lim (x.snd - (↑(x.fst.length + Pl.costTs x.fst) : Int)) < (0 : Int))) ((-1 : Int) = Pl.lim (k - (↑(Pl.costT (Pl.Tree.mk a b)) : Int)))
 (Pl.lim (x.snd - (↑(x.fst.length + Pl.costTs x.fst) : Int)) = Pl.lim (k - (↑(Pl.costT (Pl.Tree.mk a b)) : Int))))) = Goal Tryz.prog [(K_szTermS n)] ([]) (K_szTerm n).1 (K_szTerm n).2 (((a, b), k)) := by kernel_rfl

theorem vc_szTermS (n : Nat) (l : List Pl.Tm) (k : Int) : (condP (Decidable.decide (IntKind.i64.wrap (k - (↑l.length : Int)) < (0 : Int))) ((-1 : Int) = Pl.lim (k - (↑(l.length + Pl.costTs l) : Int)))
 ((Exists fun (x : Nat) =>
 (x ≤ l.length ∧ (0 : Int) ≤ k - (↑l.length : Int) - (↑(Pl.costTs (List.take x l)) : Int)) ∧
 (Is (terms l) (terms l) ∧ IntKind.i64.wrap (k - (↑l.length : Int)) = k - (↑l.length : Int) - (↑(Pl.costTs (List.take x l)) : Int) ∧ (0 : Int) = (↑x : Int) ∧ True) ∧ True) ∧
 ∀ (x : Nat),
 x ≤ l.length ∧ (0 : Int) ≤ k - (↑l.length : Int) - (↑(Pl.costTs (List.take x l)) : Int) →
 condP (Decidable.decide ((↑x : Int) < (↑l.length : Int)))
 (((0 : Int) ≤ (↑x : Int) ∧ (↑x : Int) < (↑l.length : Int)) ∧
 x < l.length ∧
 Exists fun (x_1 : Pl.TP × Int) =>
 ((Pl.Tree.val (l.getD x Pl.dT) = x_1.fst.fst ∧ Is (kidsT (l.getD x Pl.dT)) (terms x_1.fst.snd) ∧ True) ∧
 k - (↑l.length : Int) - (↑(Pl.costTs (List.take x l)) : Int) = x_1.snd ∧ True) ∧
 ((MlT (Pl.Tree.mk x_1.fst.fst x_1.fst.snd) ∧ Fu x_1.snd) ∧ Pl.manyL x_1.fst.snd < n) ∧
 condP (Decidable.decide (Pl.lim (x_1.snd - (↑(Pl.costT (Pl.Tree.mk x_1.fst.fst x_1.fst.snd)) : Int)) < (0 : Int))) ((-1 : Int) = Pl.lim (k - (↑(l.length + Pl.costTs l) : Int)))
 (Exists fun (x' : Nat) =>
 (x' ≤ l.length ∧ (0 : Int) ≤ k - (↑l.length : Int) - (↑(Pl.costTs (List.take x' l)) : Int)) ∧
 l.length - x' < l.length - x ∧
 (Is (terms l) (terms l) ∧
 Pl.lim (x_1.snd - (↑(Pl.costT (Pl.Tree.mk x_1.fst.fst x_1.fst.snd)) : Int)) = k - (↑l.length : Int) - (↑(Pl.costTs (List.take x' l)) : Int) ∧
 IntKind.i64.wrap ((↑x : Int) + (1 : Int)) = (↑x' : Int) ∧ True) ∧
 True))
 (k - (↑l.length : Int) - (↑(Pl.costTs (List.take x l)) : Int) = Pl.lim (k - (↑(l.length + Pl.costTs l) : Int))))) = Goal Tryz.prog [(K_szTerm n)] (A_szTermS l k) (K_szTermS (n + 1)).1 (K_szTermS (n + 1)).2 ((l, k)) := by kernel_rfl

theorem vc_toTerm (n : Nat) (a : ByteArray) (b : List Pl.Tm) : (Exists fun (x : List Pl.Tm) => (Is (terms b) (terms x) ∧ True) ∧ (SmTs x ∧ Pl.manyL x < n) ∧ a = a ∧ Is (terms x) (terms b) ∧ True) = Goal Tryz.prog [(K_toTermS n)] ([]) (K_toTerm n).1 (K_toTerm n).2 ((a, b)) := by kernel_rfl

theorem vc_toTermS (n : Nat) (l : List Pl.Tm) : ((0 : Int) ≤ (↑l.length : Int) ∧
 (↑l.length : Int) ≤ (↑l.length : Int) ∧
 (↑(40 : Nat) : Int) * (↑l.length : Int) ≤ (140737488355328 : Int) ∧
 (↑l.length : Int) ≤ (140737488355328 : Int) ∧
 (Exists fun (x : Nat × List Pl.Tm) =>
 (x.fst ≤ l.length ∧ x.snd.length = l.length ∧ List.take x.fst x.snd = List.take x.fst l) ∧
 (Is (terms l) (terms l) ∧ ((0 : Nat) = (0 : Nat) ∧ l.length = x.snd.length) ∧ (0 : Int) = (↑x.fst : Int) ∧ True) ∧
 IsO (AObj.arr l.length (2 : Nat) fun (x j : Nat) => [st { data := #[] }, AV.lit (0 : Nat) (1 : Nat) fun (x x_1 : Nat) => AV.any].getD j AV.any) (arT x.snd) ∧
 True) ∧
 ∀ (x : Nat × List Pl.Tm),
 x.fst ≤ l.length ∧ x.snd.length = l.length ∧ List.take x.fst x.snd = List.take x.fst l →
 condP (Decidable.decide ((↑x.fst : Int) < (↑l.length : Int)))
 (((0 : Int) ≤ (↑x.fst : Int) ∧ (↑x.fst : Int) < (↑l.length : Int)) ∧
 x.fst < l.length ∧
 Exists fun (x_1 : Pl.TP) =>
 ((Pl.Tree.val (l.getD x.fst Pl.dT) = x_1.fst ∧ Is (kidsT (l.getD x.fst Pl.dT)) (terms x_1.snd) ∧ True) ∧ True) ∧
 (SmT (Pl.Tree.mk x_1.fst x_1.snd) ∧ Pl.manyL x_1.snd < n) ∧
 ((0 : Int) ≤ (↑x.fst : Int) ∧ (↑x.fst : Int) < (↑x.snd.length : Int)) ∧
 x.fst < x.snd.length ∧
 Exists fun (x' : Nat × List Pl.Tm) =>
 (x'.fst ≤ l.length ∧ x'.snd.length = l.length ∧ List.take x'.fst x'.snd = List.take x'.fst l) ∧
 l.length - x'.fst < l.length - x.fst ∧
 (Is (terms l) (terms l) ∧
 ((0 : Nat) = (0 : Nat) ∧ x.snd.length = x'.snd.length) ∧ IntKind.i64.wrap ((↑x.fst : Int) + (1 : Int)) = (↑x'.fst : Int) ∧ True) ∧
 IsO (AObj.arr x.snd.length (2 : Nat) (storeC (cT x.snd) x.fst (0 : Nat) [st x_1.fst, terms x_1.snd])) (arT x'.snd) ∧ True)
 ((0 : Nat) + x.snd.length ≤ x.snd.length ∧ Is (terms x.snd) (terms l))) = Goal Tryz.prog [(K_toTerm n)] (A_toTermS l) (K_toTermS (n + 1)).1 (K_toTermS (n + 1)).2 (l) := by kernel_rfl

theorem vc_eqTerm (n : Nat) (a : ByteArray) (b : List Pl.Tm) (c : ByteArray) (d : List Pl.Tm) : (condP (!a.toList == c.toList) (Bool.false = Decidable.decide ((a, b) = (c, d)))
 (Exists fun (x : List Pl.Tm × List Pl.Tm) =>
 (Is (terms b) (terms x.fst) ∧ Is (terms d) (terms x.snd) ∧ True) ∧
 (SmTs x.fst ∧ Pl.manyL x.fst < n) ∧ condP (!Decidable.decide (x.fst = x.snd)) (Bool.false = Decidable.decide ((a, b) = (c, d))) (Bool.true = Decidable.decide ((a, b) = (c, d))))) = Goal Tryz.prog [(K_eqTermS n)] ([]) (K_eqTerm n).1 (K_eqTerm n).2 (((a, b), (c, d))) := by kernel_rfl

theorem vc_eqTermS (n : Nat) (l m : List Pl.Tm) : (condP ((↑l.length : Int) != (↑m.length : Int)) (Bool.false = Decidable.decide (l = m))
 ((Exists fun (x : Nat) =>
 (x ≤ l.length ∧ l.length = m.length ∧ (l = m ↔ List.drop x l = List.drop x m)) ∧ (Is (terms l) (terms l) ∧ Is (terms m) (terms m) ∧ (0 : Int) = (↑x : Int) ∧ True) ∧ True) ∧
 ∀ (x : Nat),
 x ≤ l.length ∧ l.length = m.length ∧ (l = m ↔ List.drop x l = List.drop x m) →
 condP (Decidable.decide ((↑x : Int) < (↑l.length : Int)))
 (((0 : Int) ≤ (↑x : Int) ∧ (↑x : Int) < (↑l.length : Int)) ∧
 x < l.length ∧
 ((0 : Int) ≤ (↑x : Int) ∧ (↑x : Int) < (↑m.length : Int)) ∧
 x < m.length ∧
 Exists fun (x_1 : Pl.TP × Pl.TP) =>
 ((Pl.Tree.val (l.getD x Pl.dT) = x_1.fst.fst ∧ Is (kidsT (l.getD x Pl.dT)) (terms x_1.fst.snd) ∧ True) ∧
 (Pl.Tree.val (m.getD x Pl.dT) = x_1.snd.fst ∧ Is (kidsT (m.getD x Pl.dT)) (terms x_1.snd.snd) ∧ True) ∧ True) ∧
 (SmT (Pl.Tree.mk x_1.fst.fst x_1.fst.snd) ∧ Pl.manyL x_1.fst.snd < n) ∧
 condP (!Decidable.decide (x_1.fst = x_1.snd)) (Bool.false = Decidable.decide (l = m))
 (Exists fun (x' : Nat) =>
 (x' ≤ l.length ∧ l.length = m.length ∧ (l = m ↔ List.drop x' l = List.drop x' m)) ∧
 l.length - x' < l.length - x ∧
 (Is (terms l) (terms l) ∧ Is (terms m) (terms m) ∧ IntKind.i64.wrap ((↑x : Int) + (1 : Int)) = (↑x' : Int) ∧ True) ∧ True))
 (Bool.true = Decidable.decide (l = m)))) = Goal Tryz.prog [(K_eqTerm n)] (A_eqTermS l m) (K_eqTermS (n + 1)).1 (K_eqTermS (n + 1)).2 ((l, m)) := by kernel_rfl

end Cg
