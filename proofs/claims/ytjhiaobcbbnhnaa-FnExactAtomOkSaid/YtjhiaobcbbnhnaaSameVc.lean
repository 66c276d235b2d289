/-
  What is left to show of each function's code, printed by a program: Same. No condition.
-/
import Derived.Test.YtjhiaobcbbnhnaaSameDefs
import Derived.Test.YtjhiaobcbbnhnaaProg
set_option maxRecDepth 100000
set_option linter.unusedVariables false
namespace Cg
open Go Go.Proofs
theorem vc_szAtom (x : Pl.Atm × Int) : (Exists fun (x_1 : Pl.TP × Int) =>
 ((x.fst.snd.fst.fst = x_1.fst.fst ∧ Is (terms x.fst.snd.fst.snd) (terms x_1.fst.snd) ∧ True) ∧ x.snd = x_1.snd ∧ True) ∧
 (MlT (Pl.Tree.mk x_1.fst.fst x_1.fst.snd) ∧ Fu x_1.snd) ∧
 condP (Decidable.decide (Pl.lim (x_1.snd - (↑(Pl.costT (Pl.Tree.mk x_1.fst.fst x_1.fst.snd)) : Int)) < (0 : Int))) ((-1 : Int) = Pl.lim (x.snd - (↑(Pl.costA x.fst) : Int)))
 (Exists fun (x_2 : Pl.TP × Int) =>
 ((x.fst.snd.snd.fst.fst = x_2.fst.fst ∧ Is (terms x.fst.snd.snd.fst.snd) (terms x_2.fst.snd) ∧ True) ∧
 Pl.lim (x_1.snd - (↑(Pl.costT (Pl.Tree.mk x_1.fst.fst x_1.fst.snd)) : Int)) = x_2.snd ∧ True) ∧
 (MlT (Pl.Tree.mk x_2.fst.fst x_2.fst.snd) ∧ Fu x_2.snd) ∧
 condP (Decidable.decide (Pl.lim (x_2.snd - (↑(Pl.costT (Pl.Tree.mk x_2.fst.fst x_2.fst.snd)) : Int)) < (0 : Int))) ((-1 : Int) = Pl.lim (x.snd - (↑(Pl.costA x.fst) : Int)))
 (Exists fun (x_3 : List Pl.Tm × Int) =>
 (Is (terms x.fst.snd.snd.snd.fst) (terms x_3.fst) ∧ Pl.lim (x_2.snd - (↑(Pl.costT (Pl.Tree.mk x_2.fst.fst x_2.fst.snd)) : Int)) = x_3.snd ∧ True) ∧
 ((Ml x_3.fst ∧ ∀ (t : Pl.Tm), t ∈ x_3.fst → MlT t) ∧ Fu x_3.snd) ∧
 condP (Decidable.decide (Pl.lim (x_3.snd - (↑(x_3.fst.length + Pl.costTs x_3.fst) : Int)) < (0 : Int))) ((-1 : Int) = Pl.lim (x.snd - (↑(Pl.costA x.fst) : Int)))
 (Exists fun (x_4 : List Int × Int) =>
 (Is (ints x.fst.snd.snd.snd.snd.fst) (ints x_4.fst) ∧ Pl.lim (x_3.snd - (↑(x_3.fst.length + Pl.costTs x_3.fst) : Int)) = x_4.snd ∧ True) ∧
 (Ml x_4.fst ∧ Fu x_4.snd) ∧
 condP (Decidable.decide (Pl.sz1 x_4.fst.length x_4.snd < (0 : Int))) ((-1 : Int) = Pl.lim (x.snd - (↑(Pl.costA x.fst) : Int)))
 (Pl.sz1 x_4.fst.length x_4.snd = Pl.lim (x.snd - (↑(Pl.costA x.fst) : Int))))))) = Goal Try.prog [K_szT, K_szTs, K_szIntS] ([]) K_szAtom.1 K_szAtom.2 (x) := by kernel_rfl

theorem vc_szLit (x : Pl.Ltr × Int) : (Exists fun (x_1 : Pl.Atm × Int) =>
 ((x.fst.fst.fst = x_1.fst.fst ∧
 x.fst.fst.snd.fst.fst = x_1.fst.snd.fst.fst ∧
 Is (terms x.fst.fst.snd.fst.snd) (terms x_1.fst.snd.fst.snd) ∧
 x.fst.fst.snd.snd.fst.fst = x_1.fst.snd.snd.fst.fst ∧
 Is (terms x.fst.fst.snd.snd.fst.snd) (terms x_1.fst.snd.snd.fst.snd) ∧
 Is (terms x.fst.fst.snd.snd.snd.fst) (terms x_1.fst.snd.snd.snd.fst) ∧
 Is (ints x.fst.fst.snd.snd.snd.snd.fst) (ints x_1.fst.snd.snd.snd.snd.fst) ∧
 x.fst.fst.snd.snd.snd.snd.snd.fst = x_1.fst.snd.snd.snd.snd.snd.fst ∧ x.fst.fst.snd.snd.snd.snd.snd.snd = x_1.fst.snd.snd.snd.snd.snd.snd ∧ True) ∧
 x.snd = x_1.snd ∧ True) ∧
 (MlA x_1.fst ∧ Fu x_1.snd) ∧
 condP (Decidable.decide (Pl.lim (x_1.snd - (↑(Pl.costA x_1.fst) : Int)) < (0 : Int))) ((-1 : Int) = Pl.lim (x.snd - (↑(Pl.costL x.fst) : Int)))
 (Pl.lim (x_1.snd - (↑(Pl.costA x_1.fst) : Int)) = Pl.lim (x.snd - (↑(Pl.costL x.fst) : Int)))) = Goal Try.prog [K_szAtom] ([]) K_szLit.1 K_szLit.2 (x) := by kernel_rfl

theorem vc_toAtom (x : Pl.Atm) : (Exists fun (x_1 : Pl.TP) =>
 ((x.snd.fst.fst = x_1.fst ∧ Is (terms x.snd.fst.snd) (terms x_1.snd) ∧ True) ∧ True) ∧
 SmT (Pl.Tree.mk x_1.fst x_1.snd) ∧
 Exists fun (x_2 : Pl.TP) =>
 ((x.snd.snd.fst.fst = x_2.fst ∧ Is (terms x.snd.snd.fst.snd) (terms x_2.snd) ∧ True) ∧ True) ∧
 SmT (Pl.Tree.mk x_2.fst x_2.snd) ∧
 Exists fun (x_3 : List Pl.Tm) =>
 (Is (terms x.snd.snd.snd.fst) (terms x_3) ∧ True) ∧
 SmTs x_3 ∧
 Exists fun (x_4 : List Int) =>
 (Is (ints x.snd.snd.snd.snd.fst) (ints x_4) ∧ True) ∧
 Sz x_4 ∧
 x.fst = x.fst ∧
 x_1.fst = x.snd.fst.fst ∧
 Is (terms x_1.snd) (terms x.snd.fst.snd) ∧
 x_2.fst = x.snd.snd.fst.fst ∧
 Is (terms x_2.snd) (terms x.snd.snd.fst.snd) ∧
 Is (terms x_3) (terms x.snd.snd.snd.fst) ∧
 Is (ints x_4) (ints x.snd.snd.snd.snd.fst) ∧
 x.snd.snd.snd.snd.snd.fst = x.snd.snd.snd.snd.snd.fst ∧ x.snd.snd.snd.snd.snd.snd = x.snd.snd.snd.snd.snd.snd ∧ True) = Goal Try.prog [K_toT, K_toTs, K_toIntS] ([]) K_toAtom.1 K_toAtom.2 (x) := by kernel_rfl

theorem vc_toLit (x : Pl.Ltr) : (Exists fun (x_1 : Pl.Atm) =>
 ((x.fst.fst = x_1.fst ∧
 x.fst.snd.fst.fst = x_1.snd.fst.fst ∧
 Is (terms x.fst.snd.fst.snd) (terms x_1.snd.fst.snd) ∧
 x.fst.snd.snd.fst.fst = x_1.snd.snd.fst.fst ∧
 Is (terms x.fst.snd.snd.fst.snd) (terms x_1.snd.snd.fst.snd) ∧
 Is (terms x.fst.snd.snd.snd.fst) (terms x_1.snd.snd.snd.fst) ∧
 Is (ints x.fst.snd.snd.snd.snd.fst) (ints x_1.snd.snd.snd.snd.fst) ∧
 x.fst.snd.snd.snd.snd.snd.fst = x_1.snd.snd.snd.snd.snd.fst ∧ x.fst.snd.snd.snd.snd.snd.snd = x_1.snd.snd.snd.snd.snd.snd ∧ True) ∧
 True) ∧
 SmA x_1 ∧
 x_1.fst = x.fst.fst ∧
 x_1.snd.fst.fst = x.fst.snd.fst.fst ∧
 Is (terms x_1.snd.fst.snd) (terms x.fst.snd.fst.snd) ∧
 x_1.snd.snd.fst.fst = x.fst.snd.snd.fst.fst ∧
 Is (terms x_1.snd.snd.fst.snd) (terms x.fst.snd.snd.fst.snd) ∧
 Is (terms x_1.snd.snd.snd.fst) (terms x.fst.snd.snd.snd.fst) ∧
 Is (ints x_1.snd.snd.snd.snd.fst) (ints x.fst.snd.snd.snd.snd.fst) ∧
 x_1.snd.snd.snd.snd.snd.fst = x.fst.snd.snd.snd.snd.snd.fst ∧ x_1.snd.snd.snd.snd.snd.snd = x.fst.snd.snd.snd.snd.snd.snd ∧ x.snd = x.snd ∧ True) = Goal Try.prog [K_toAtom] ([]) K_toLit.1 K_toLit.2 (x) := by kernel_rfl

theorem vc_eqAtom (x : Pl.Atm × Pl.Atm) : (condP (x.fst.fst != x.snd.fst) (Bool.false = Decidable.decide (x.fst = x.snd))
 (Exists fun (x_1 : Pl.TP × Pl.TP) =>
 ((x.fst.snd.fst.fst = x_1.fst.fst ∧ Is (terms x.fst.snd.fst.snd) (terms x_1.fst.snd) ∧ True) ∧
 (x.snd.snd.fst.fst = x_1.snd.fst ∧ Is (terms x.snd.snd.fst.snd) (terms x_1.snd.snd) ∧ True) ∧ True) ∧
 SmT (Pl.Tree.mk x_1.fst.fst x_1.fst.snd) ∧
 condP (!Decidable.decide (x_1.fst = x_1.snd)) (Bool.false = Decidable.decide (x.fst = x.snd))
 (Exists fun (x_2 : Pl.TP × Pl.TP) =>
 ((x.fst.snd.snd.fst.fst = x_2.fst.fst ∧ Is (terms x.fst.snd.snd.fst.snd) (terms x_2.fst.snd) ∧ True) ∧
 (x.snd.snd.snd.fst.fst = x_2.snd.fst ∧ Is (terms x.snd.snd.snd.fst.snd) (terms x_2.snd.snd) ∧ True) ∧ True) ∧
 SmT (Pl.Tree.mk x_2.fst.fst x_2.fst.snd) ∧
 condP (!Decidable.decide (x_2.fst = x_2.snd)) (Bool.false = Decidable.decide (x.fst = x.snd))
 (Exists fun (x_3 : List Pl.Tm × List Pl.Tm) =>
 (Is (terms x.fst.snd.snd.snd.fst) (terms x_3.fst) ∧ Is (terms x.snd.snd.snd.snd.fst) (terms x_3.snd) ∧ True) ∧
 SmTs x_3.fst ∧
 condP (!Decidable.decide (x_3.fst = x_3.snd)) (Bool.false = Decidable.decide (x.fst = x.snd))
 (Exists fun (x_4 : List Int × List Int) =>
 (Is (ints x.fst.snd.snd.snd.snd.fst) (ints x_4.fst) ∧ Is (ints x.snd.snd.snd.snd.snd.fst) (ints x_4.snd) ∧ True) ∧
 Sz x_4.fst ∧
 condP (!Decidable.decide (x_4.fst = x_4.snd)) (Bool.false = Decidable.decide (x.fst = x.snd))
 (condP (x.fst.snd.snd.snd.snd.snd.fst != x.snd.snd.snd.snd.snd.snd.fst) (Bool.false = Decidable.decide (x.fst = x.snd))
 (condP (!x.fst.snd.snd.snd.snd.snd.snd == x.snd.snd.snd.snd.snd.snd.snd) (Bool.false = Decidable.decide (x.fst = x.snd))
 (Bool.true = Decidable.decide (x.fst = x.snd))))))))) = Goal Try.prog [K_eqT, K_eqTs, K_eqIntS] ([]) K_eqAtom.1 K_eqAtom.2 (x) := by kernel_rfl

theorem vc_eqLit (x : Pl.Ltr × Pl.Ltr) : (Exists fun (x_1 : Pl.Atm × Pl.Atm) =>
 ((x.fst.fst.fst = x_1.fst.fst ∧
 x.fst.fst.snd.fst.fst = x_1.fst.snd.fst.fst ∧
 Is (terms x.fst.fst.snd.fst.snd) (terms x_1.fst.snd.fst.snd) ∧
 x.fst.fst.snd.snd.fst.fst = x_1.fst.snd.snd.fst.fst ∧
 Is (terms x.fst.fst.snd.snd.fst.snd) (terms x_1.fst.snd.snd.fst.snd) ∧
 Is (terms x.fst.fst.snd.snd.snd.fst) (terms x_1.fst.snd.snd.snd.fst) ∧
 Is (ints x.fst.fst.snd.snd.snd.snd.fst) (ints x_1.fst.snd.snd.snd.snd.fst) ∧
 x.fst.fst.snd.snd.snd.snd.snd.fst = x_1.fst.snd.snd.snd.snd.snd.fst ∧ x.fst.fst.snd.snd.snd.snd.snd.snd = x_1.fst.snd.snd.snd.snd.snd.snd ∧ True) ∧
 (x.snd.fst.fst = x_1.snd.fst ∧
 x.snd.fst.snd.fst.fst = x_1.snd.snd.fst.fst ∧
 Is (terms x.snd.fst.snd.fst.snd) (terms x_1.snd.snd.fst.snd) ∧
 x.snd.fst.snd.snd.fst.fst = x_1.snd.snd.snd.fst.fst ∧
 Is (terms x.snd.fst.snd.snd.fst.snd) (terms x_1.snd.snd.snd.fst.snd) ∧
 Is (terms x.snd.fst.snd.snd.snd.fst) (terms x_1.snd.snd.snd.snd.fst) ∧
 Is (ints x.snd.fst.snd.snd.snd.snd.fst) (ints x_1.snd.snd.snd.snd.snd.fst) ∧
 x.snd.fst.snd.snd.snd.snd.snd.fst = x_1.snd.snd.snd.snd.snd.snd.fst ∧ x.snd.fst.snd.snd.snd.snd.snd.snd = x_1.snd.snd.snd.snd.snd.snd.snd ∧ True) ∧
 True) ∧
 SmA x_1.fst ∧
 condP (!Decidable.decide (x_1.fst = x_1.snd)) (Bool.false = Decidable.decide (x.fst = x.snd))
 (condP (!x.fst.snd == x.snd.snd) (Bool.false = Decidable.decide (x.fst = x.snd)) (Bool.true = Decidable.decide (x.fst = x.snd)))) = Goal Try.prog [K_eqAtom] ([]) K_eqLit.1 K_eqLit.2 (x) := by kernel_rfl

theorem vc_sTSame (n : Nat) (x : Pl.TP × Pl.TP) : (condP (!x.fst.fst.toList == x.snd.fst.toList) (Bool.false = Decidable.decide (x.fst = x.snd))
 (condP ((↑x.fst.snd.length : Int) != (↑x.snd.snd.length : Int)) (Bool.false = Decidable.decide (x.fst = x.snd))
 ((Exists fun (x_1 : Nat) =>
 (x_1 ≤ x.fst.snd.length ∧ x.fst.snd.length = x.snd.snd.length ∧ x.fst.fst = x.snd.fst ∧ (x.fst.snd = x.snd.snd ↔ List.drop x_1 x.fst.snd = List.drop x_1 x.snd.snd)) ∧
 ((0 : Nat) = (0 : Nat) ∧ (0 : Nat) = (0 : Nat) ∧ (0 : Int) = (↑x_1 : Int) ∧ True) ∧
 (x.fst.fst = x.fst.fst ∧ Is (terms x.fst.snd) (terms x.fst.snd) ∧ True) ∧ (x.snd.fst = x.snd.fst ∧ Is (terms x.snd.snd) (terms x.snd.snd) ∧ True) ∧ True) ∧
 ∀ (x_1 : Nat),
 x_1 ≤ x.fst.snd.length ∧ x.fst.snd.length = x.snd.snd.length ∧ x.fst.fst = x.snd.fst ∧ (x.fst.snd = x.snd.snd ↔ List.drop x_1 x.fst.snd = List.drop x_1 x.snd.snd) →
 condP (Decidable.decide ((↑x_1 : Int) < (↑x.fst.snd.length : Int)))
 (((0 : Int) ≤ (↑x_1 : Int) ∧ (↑x_1 : Int) < (↑x.fst.snd.length : Int)) ∧
 x_1 < x.fst.snd.length ∧
 ((0 : Int) ≤ (↑x_1 : Int) ∧ (↑x_1 : Int) < (↑x.snd.snd.length : Int)) ∧
 x_1 < x.snd.snd.length ∧
 Exists fun (x_2 : Pl.TP × Pl.TP) =>
 ((Pl.Tree.val (x.fst.snd.getD x_1 Pl.dT) = x_2.fst.fst ∧ Is (kidsT (x.fst.snd.getD x_1 Pl.dT)) (terms x_2.fst.snd) ∧ True) ∧
 (Pl.Tree.val (x.snd.snd.getD x_1 Pl.dT) = x_2.snd.fst ∧ Is (kidsT (x.snd.snd.getD x_1 Pl.dT)) (terms x_2.snd.snd) ∧ True) ∧ True) ∧
 (SmT (Pl.Tree.mk x_2.fst.fst x_2.fst.snd) ∧ Pl.manyL x_2.fst.snd < n) ∧
 condP (!Decidable.decide (x_2.fst = x_2.snd)) (Bool.false = Decidable.decide (x.fst = x.snd))
 (Exists fun (x' : Nat) =>
 (x' ≤ x.fst.snd.length ∧ x.fst.snd.length = x.snd.snd.length ∧ x.fst.fst = x.snd.fst ∧ (x.fst.snd = x.snd.snd ↔ List.drop x' x.fst.snd = List.drop x' x.snd.snd)) ∧
 x.fst.snd.length - x' < x.fst.snd.length - x_1 ∧
 ((0 : Nat) = (0 : Nat) ∧ (0 : Nat) = (0 : Nat) ∧ IntKind.i64.wrap ((↑x_1 : Int) + (1 : Int)) = (↑x' : Int) ∧ True) ∧
 (x.fst.fst = x.fst.fst ∧ Is (terms x.fst.snd) (terms x.fst.snd) ∧ True) ∧
 (x.snd.fst = x.snd.fst ∧ Is (terms x.snd.snd) (terms x.snd.snd) ∧ True) ∧ True))
 (Bool.true = Decidable.decide (x.fst = x.snd))))) = Goal Try.prog [(K_sTSame n)] (A_sTSame x.1 x.2) (K_sTSame (n + 1)).1 (K_sTSame (n + 1)).2 (x) := by kernel_rfl

theorem vc_EqualT (n : Nat) (x : List Pl.Tm × List Pl.Tm) : (condP ((↑x.fst.length : Int) != (↑x.snd.length : Int)) (Bool.false = Decidable.decide (x.fst = x.snd))
 ((Exists fun (x_1 : Nat) =>
 (x_1 ≤ x.fst.length ∧ x.fst.length = x.snd.length ∧ (x.fst = x.snd ↔ List.drop x_1 x.fst = List.drop x_1 x.snd)) ∧
 (Is (terms x.fst) (terms x.fst) ∧
 Is (terms x.snd) (terms x.snd) ∧ True ∧ Is (terms x.fst) (terms x.fst) ∧ (↑x.fst.length : Int) = (↑x.fst.length : Int) ∧ (0 : Int) = (↑x_1 : Int) ∧ True) ∧
 True) ∧
 ∀ (x_1 : Nat),
 x_1 ≤ x.fst.length ∧ x.fst.length = x.snd.length ∧ (x.fst = x.snd ↔ List.drop x_1 x.fst = List.drop x_1 x.snd) →
 condP (Decidable.decide ((↑x_1 : Int) < (↑x.fst.length : Int)))
 (((0 : Int) ≤ (↑x_1 : Int) ∧ (↑x_1 : Int) < (↑x.fst.length : Int)) ∧
 x_1 < x.fst.length ∧
 ((0 : Int) ≤ (↑x_1 : Int) ∧ (↑x_1 : Int) < (↑x.snd.length : Int)) ∧
 x_1 < x.snd.length ∧
 Exists fun (x_2 : Pl.TP × Pl.TP) =>
 ((Pl.Tree.val (x.fst.getD x_1 Pl.dT) = x_2.fst.fst ∧ Is (kidsT (x.fst.getD x_1 Pl.dT)) (terms x_2.fst.snd) ∧ True) ∧
 (Pl.Tree.val (x.snd.getD x_1 Pl.dT) = x_2.snd.fst ∧ Is (kidsT (x.snd.getD x_1 Pl.dT)) (terms x_2.snd.snd) ∧ True) ∧ True) ∧
 (SmT (Pl.Tree.mk x_2.fst.fst x_2.fst.snd) ∧ Pl.manyL x_2.fst.snd < n) ∧
 condP (!Decidable.decide (x_2.fst = x_2.snd)) (Bool.false = Decidable.decide (x.fst = x.snd))
 (Exists fun (x' : Nat) =>
 (x' ≤ x.fst.length ∧ x.fst.length = x.snd.length ∧ (x.fst = x.snd ↔ List.drop x' x.fst = List.drop x' x.snd)) ∧
 x.fst.length - x' < x.fst.length - x_1 ∧
 (Is (terms x.fst) (terms x.fst) ∧
 Is (terms x.snd) (terms x.snd) ∧
 True ∧
 Is (terms x.fst) (terms x.fst) ∧ (↑x.fst.length : Int) = (↑x.fst.length : Int) ∧ IntKind.i64.wrap ((↑x_1 : Int) + (1 : Int)) = (↑x' : Int) ∧ True) ∧
 True))
 (Bool.true = Decidable.decide (x.fst = x.snd)))) = Goal Try.prog [(K_iTSame n)] (A_EqualT x.1 x.2) (K_EqualT (n + 1)).1 (K_EqualT (n + 1)).2 (x) := by kernel_rfl

theorem vc_iTSame (n : Nat) (x : Pl.TP × Pl.TP) : (condP (x.fst.fst.toList == x.snd.fst.toList)
 (Exists fun (x_1 : List Pl.Tm × List Pl.Tm) =>
 (Is (terms x.fst.snd) (terms x_1.fst) ∧ Is (terms x.snd.snd) (terms x_1.snd) ∧ True ∧ True) ∧
 (SmTs x_1.fst ∧ Pl.manyL x_1.fst < n) ∧ Decidable.decide (x_1.fst = x_1.snd) = Decidable.decide (x.fst = x.snd))
 (Bool.false = Decidable.decide (x.fst = x.snd))) = Goal Try.prog [(K_EqualT n)] ([]) (K_iTSame n).1 (K_iTSame n).2 (x) := by kernel_rfl

theorem vc_sAtomSame (x : Pl.Atm × Pl.Atm) : (condP (x.fst.fst != x.snd.fst) (Bool.false = Decidable.decide (x.fst = x.snd))
 (Exists fun (x_1 : Pl.TP × Pl.TP) =>
 ((x.fst.snd.fst.fst = x_1.fst.fst ∧ Is (terms x.fst.snd.fst.snd) (terms x_1.fst.snd) ∧ True) ∧
 (x.snd.snd.fst.fst = x_1.snd.fst ∧ Is (terms x.snd.snd.fst.snd) (terms x_1.snd.snd) ∧ True) ∧ True) ∧
 SmT (Pl.Tree.mk x_1.fst.fst x_1.fst.snd) ∧
 condP (!Decidable.decide (x_1.fst = x_1.snd)) (Bool.false = Decidable.decide (x.fst = x.snd))
 (Exists fun (x_2 : Pl.TP × Pl.TP) =>
 ((x.fst.snd.snd.fst.fst = x_2.fst.fst ∧ Is (terms x.fst.snd.snd.fst.snd) (terms x_2.fst.snd) ∧ True) ∧
 (x.snd.snd.snd.fst.fst = x_2.snd.fst ∧ Is (terms x.snd.snd.snd.fst.snd) (terms x_2.snd.snd) ∧ True) ∧ True) ∧
 SmT (Pl.Tree.mk x_2.fst.fst x_2.fst.snd) ∧
 condP (!Decidable.decide (x_2.fst = x_2.snd)) (Bool.false = Decidable.decide (x.fst = x.snd))
 (condP ((↑x.fst.snd.snd.snd.fst.length : Int) != (↑x.snd.snd.snd.snd.fst.length : Int)) (Bool.false = Decidable.decide (x.fst = x.snd))
 (condP ((↑x.fst.snd.snd.snd.snd.fst.length : Int) != (↑x.snd.snd.snd.snd.snd.fst.length : Int)) (Bool.false = Decidable.decide (x.fst = x.snd))
 (condP (x.fst.snd.snd.snd.snd.snd.fst != x.snd.snd.snd.snd.snd.snd.fst) (Bool.false = Decidable.decide (x.fst = x.snd))
 (condP (!x.fst.snd.snd.snd.snd.snd.snd == x.snd.snd.snd.snd.snd.snd.snd) (Bool.false = Decidable.decide (x.fst = x.snd))
 ((Exists fun (x_3 : Nat) =>
 (x_3 ≤ x.fst.snd.snd.snd.fst.length ∧
 x.fst.snd.snd.snd.fst.length = x.snd.snd.snd.snd.fst.length ∧
 (x.fst = x.snd ↔ x.fst.snd.snd.snd.snd.fst = x.snd.snd.snd.snd.snd.fst ∧ List.drop x_3 x.fst.snd.snd.snd.fst = List.drop x_3 x.snd.snd.snd.snd.fst) ∧
 x.fst.snd.snd.snd.snd.fst.length = x.snd.snd.snd.snd.snd.fst.length) ∧
 ((0 : Nat) = (0 : Nat) ∧ (0 : Nat) = (0 : Nat) ∧ (0 : Int) = (↑x_3 : Int) ∧ True) ∧
 (x.fst.fst = x.fst.fst ∧
 x.fst.snd.fst.fst = x.fst.snd.fst.fst ∧
 Is (terms x.fst.snd.fst.snd) (terms x.fst.snd.fst.snd) ∧
 x.fst.snd.snd.fst.fst = x.fst.snd.snd.fst.fst ∧
 Is (terms x.fst.snd.snd.fst.snd) (terms x.fst.snd.snd.fst.snd) ∧
 Is (terms x.fst.snd.snd.snd.fst) (terms x.fst.snd.snd.snd.fst) ∧
 Is (ints x.fst.snd.snd.snd.snd.fst) (ints x.fst.snd.snd.snd.snd.fst) ∧
 x.fst.snd.snd.snd.snd.snd.fst = x.fst.snd.snd.snd.snd.snd.fst ∧ x.fst.snd.snd.snd.snd.snd.snd = x.fst.snd.snd.snd.snd.snd.snd ∧ True) ∧
 (x.snd.fst = x.snd.fst ∧
 x.snd.snd.fst.fst = x.snd.snd.fst.fst ∧
 Is (terms x.snd.snd.fst.snd) (terms x.snd.snd.fst.snd) ∧
 x.snd.snd.snd.fst.fst = x.snd.snd.snd.fst.fst ∧
 Is (terms x.snd.snd.snd.fst.snd) (terms x.snd.snd.snd.fst.snd) ∧
 Is (terms x.snd.snd.snd.snd.fst) (terms x.snd.snd.snd.snd.fst) ∧
 Is (ints x.snd.snd.snd.snd.snd.fst) (ints x.snd.snd.snd.snd.snd.fst) ∧
 x.snd.snd.snd.snd.snd.snd.fst = x.snd.snd.snd.snd.snd.snd.fst ∧ x.snd.snd.snd.snd.snd.snd.snd = x.snd.snd.snd.snd.snd.snd.snd ∧ True) ∧
 True) ∧
 ∀ (x_3 : Nat),
 x_3 ≤ x.fst.snd.snd.snd.fst.length ∧
 x.fst.snd.snd.snd.fst.length = x.snd.snd.snd.snd.fst.length ∧
 (x.fst = x.snd ↔ x.fst.snd.snd.snd.snd.fst = x.snd.snd.snd.snd.snd.fst ∧ List.drop x_3 x.fst.snd.snd.snd.fst = List.drop x_3 x.snd.snd.snd.snd.fst) ∧
 x.fst.snd.snd.snd.snd.fst.length = x.snd.snd.snd.snd.snd.fst.length →
 condP (Decidable.decide ((↑x_3 : Int) < (↑x.fst.snd.snd.snd.fst.length : Int)))
 (((0 : Int) ≤ (↑x_3 : Int) ∧ (↑x_3 : Int) < (↑x.fst.snd.snd.snd.fst.length : Int)) ∧
 x_3 < x.fst.snd.snd.snd.fst.length ∧
 ((0 : Int) ≤ (↑x_3 : Int) ∧ (↑x_3 : Int) < (↑x.snd.snd.snd.snd.fst.length : Int)) ∧
 x_3 < x.snd.snd.snd.snd.fst.length ∧
 Exists fun (x_4 : Pl.TP × Pl.TP) =>
 ((Pl.Tree.val (x.fst.snd.snd.snd.fst.getD x_3 Pl.dT) = x_4.fst.fst ∧
 Is (kidsT (x.fst.snd.snd.snd.fst.getD x_3 Pl.dT)) (terms x_4.fst.snd) ∧ True) ∧
 (Pl.Tree.val (x.snd.snd.snd.snd.fst.getD x_3 Pl.dT) = x_4.snd.fst ∧
 Is (kidsT (x.snd.snd.snd.snd.fst.getD x_3 Pl.dT)) (terms x_4.snd.snd) ∧ True) ∧
 True) ∧
 SmT (Pl.Tree.mk x_4.fst.fst x_4.fst.snd) ∧
 condP (!Decidable.decide (x_4.fst = x_4.snd)) (Bool.false = Decidable.decide (x.fst = x.snd))
 (Exists fun (x' : Nat) =>
 (x' ≤ x.fst.snd.snd.snd.fst.length ∧
 x.fst.snd.snd.snd.fst.length = x.snd.snd.snd.snd.fst.length ∧
 (x.fst = x.snd ↔
 x.fst.snd.snd.snd.snd.fst = x.snd.snd.snd.snd.snd.fst ∧ List.drop x' x.fst.snd.snd.snd.fst = List.drop x' x.snd.snd.snd.snd.fst) ∧
 x.fst.snd.snd.snd.snd.fst.length = x.snd.snd.snd.snd.snd.fst.length) ∧
 x.fst.snd.snd.snd.fst.length - x' < x.fst.snd.snd.snd.fst.length - x_3 ∧
 ((0 : Nat) = (0 : Nat) ∧ (0 : Nat) = (0 : Nat) ∧ IntKind.i64.wrap ((↑x_3 : Int) + (1 : Int)) = (↑x' : Int) ∧ True) ∧
 (x.fst.fst = x.fst.fst ∧
 x.fst.snd.fst.fst = x.fst.snd.fst.fst ∧
 Is (terms x.fst.snd.fst.snd) (terms x.fst.snd.fst.snd) ∧
 x.fst.snd.snd.fst.fst = x.fst.snd.snd.fst.fst ∧
 Is (terms x.fst.snd.snd.fst.snd) (terms x.fst.snd.snd.fst.snd) ∧
 Is (terms x.fst.snd.snd.snd.fst) (terms x.fst.snd.snd.snd.fst) ∧
 Is (ints x.fst.snd.snd.snd.snd.fst) (ints x.fst.snd.snd.snd.snd.fst) ∧
 x.fst.snd.snd.snd.snd.snd.fst = x.fst.snd.snd.snd.snd.snd.fst ∧
 x.fst.snd.snd.snd.snd.snd.snd = x.fst.snd.snd.snd.snd.snd.snd ∧ True) ∧
 (x.snd.fst = x.snd.fst ∧
 x.snd.snd.fst.fst = x.snd.snd.fst.fst ∧
 Is (terms x.snd.snd.fst.snd) (terms x.snd.snd.fst.snd) ∧
 x.snd.snd.snd.fst.fst = x.snd.snd.snd.fst.fst ∧
 Is (terms x.snd.snd.snd.fst.snd) (terms x.snd.snd.snd.fst.snd) ∧
 Is (terms x.snd.snd.snd.snd.fst) (terms x.snd.snd.snd.snd.fst) ∧
 Is (ints x.snd.snd.snd.snd.snd.fst) (ints x.snd.snd.snd.snd.snd.fst) ∧
 x.snd.snd.snd.snd.snd.snd.fst = x.snd.snd.snd.snd.snd.snd.fst ∧
 x.snd.snd.snd.snd.snd.snd.snd = x.snd.snd.snd.snd.snd.snd.snd ∧ True) ∧
 True))
 ((Exists fun (x_4 : Nat) =>
 (x_4 ≤ x.fst.snd.snd.snd.snd.fst.length ∧
 x.fst.snd.snd.snd.snd.fst.length = x.snd.snd.snd.snd.snd.fst.length ∧
 (x.fst = x.snd ↔ List.drop x_4 x.fst.snd.snd.snd.snd.fst = List.drop x_4 x.snd.snd.snd.snd.snd.fst)) ∧
 ((0 : Nat) = (0 : Nat) ∧ (0 : Nat) = (0 : Nat) ∧ (0 : Int) = (↑x_4 : Int) ∧ True) ∧
 (x.fst.fst = x.fst.fst ∧
 x.fst.snd.fst.fst = x.fst.snd.fst.fst ∧
 Is (terms x.fst.snd.fst.snd) (terms x.fst.snd.fst.snd) ∧
 x.fst.snd.snd.fst.fst = x.fst.snd.snd.fst.fst ∧
 Is (terms x.fst.snd.snd.fst.snd) (terms x.fst.snd.snd.fst.snd) ∧
 Is (terms x.fst.snd.snd.snd.fst) (terms x.fst.snd.snd.snd.fst) ∧
 Is (ints x.fst.snd.snd.snd.snd.fst) (ints x.fst.snd.snd.snd.snd.fst) ∧
 x.fst.snd.snd.snd.snd.snd.fst = x.fst.snd.snd.snd.snd.snd.fst ∧ x.fst.snd.snd.snd.snd.snd.snd = x.fst.snd.snd.snd.snd.snd.snd ∧ True) ∧
 (x.snd.fst = x.snd.fst ∧
 x.snd.snd.fst.fst = x.snd.snd.fst.fst ∧
 Is (terms x.snd.snd.fst.snd) (terms x.snd.snd.fst.snd) ∧
 x.snd.snd.snd.fst.fst = x.snd.snd.snd.fst.fst ∧
 Is (terms x.snd.snd.snd.fst.snd) (terms x.snd.snd.snd.fst.snd) ∧
 Is (terms x.snd.snd.snd.snd.fst) (terms x.snd.snd.snd.snd.fst) ∧
 Is (ints x.snd.snd.snd.snd.snd.fst) (ints x.snd.snd.snd.snd.snd.fst) ∧
 x.snd.snd.snd.snd.snd.snd.fst = x.snd.snd.snd.snd.snd.snd.fst ∧ x.snd.snd.snd.snd.snd.snd.snd = x.snd.snd.snd.snd.snd.snd.snd ∧ True) ∧
 True) ∧
 ∀ (x_4 : Nat),
 x_4 ≤ x.fst.snd.snd.snd.snd.fst.length ∧
 x.fst.snd.snd.snd.snd.fst.length = x.snd.snd.snd.snd.snd.fst.length ∧
 (x.fst = x.snd ↔ List.drop x_4 x.fst.snd.snd.snd.snd.fst = List.drop x_4 x.snd.snd.snd.snd.snd.fst) →
 condP (Decidable.decide ((↑x_4 : Int) < (↑x.fst.snd.snd.snd.snd.fst.length : Int)))
 (((0 : Int) ≤ (↑x_4 : Int) ∧ (↑x_4 : Int) < (↑x.fst.snd.snd.snd.snd.fst.length : Int)) ∧
 x_4 < x.fst.snd.snd.snd.snd.fst.length ∧
 ((0 : Int) ≤ (↑x_4 : Int) ∧ (↑x_4 : Int) < (↑x.snd.snd.snd.snd.snd.fst.length : Int)) ∧
 x_4 < x.snd.snd.snd.snd.snd.fst.length ∧
 condP (x.fst.snd.snd.snd.snd.fst.getD x_4 (0 : Int) != x.snd.snd.snd.snd.snd.fst.getD x_4 (0 : Int))
 (Bool.false = Decidable.decide (x.fst = x.snd))
 (Exists fun (x' : Nat) =>
 (x' ≤ x.fst.snd.snd.snd.snd.fst.length ∧
 x.fst.snd.snd.snd.snd.fst.length = x.snd.snd.snd.snd.snd.fst.length ∧
 (x.fst = x.snd ↔ List.drop x' x.fst.snd.snd.snd.snd.fst = List.drop x' x.snd.snd.snd.snd.snd.fst)) ∧
 x.fst.snd.snd.snd.snd.fst.length - x' < x.fst.snd.snd.snd.snd.fst.length - x_4 ∧
 ((0 : Nat) = (0 : Nat) ∧ (0 : Nat) = (0 : Nat) ∧ IntKind.i64.wrap ((↑x_4 : Int) + (1 : Int)) = (↑x' : Int) ∧ True) ∧
 (x.fst.fst = x.fst.fst ∧
 x.fst.snd.fst.fst = x.fst.snd.fst.fst ∧
 Is (terms x.fst.snd.fst.snd) (terms x.fst.snd.fst.snd) ∧
 x.fst.snd.snd.fst.fst = x.fst.snd.snd.fst.fst ∧
 Is (terms x.fst.snd.snd.fst.snd) (terms x.fst.snd.snd.fst.snd) ∧
 Is (terms x.fst.snd.snd.snd.fst) (terms x.fst.snd.snd.snd.fst) ∧
 Is (ints x.fst.snd.snd.snd.snd.fst) (ints x.fst.snd.snd.snd.snd.fst) ∧
 x.fst.snd.snd.snd.snd.snd.fst = x.fst.snd.snd.snd.snd.snd.fst ∧
 x.fst.snd.snd.snd.snd.snd.snd = x.fst.snd.snd.snd.snd.snd.snd ∧ True) ∧
 (x.snd.fst = x.snd.fst ∧
 x.snd.snd.fst.fst = x.snd.snd.fst.fst ∧
 Is (terms x.snd.snd.fst.snd) (terms x.snd.snd.fst.snd) ∧
 x.snd.snd.snd.fst.fst = x.snd.snd.snd.fst.fst ∧
 Is (terms x.snd.snd.snd.fst.snd) (terms x.snd.snd.snd.fst.snd) ∧
 Is (terms x.snd.snd.snd.snd.fst) (terms x.snd.snd.snd.snd.fst) ∧
 Is (ints x.snd.snd.snd.snd.snd.fst) (ints x.snd.snd.snd.snd.snd.fst) ∧
 x.snd.snd.snd.snd.snd.snd.fst = x.snd.snd.snd.snd.snd.snd.fst ∧
 x.snd.snd.snd.snd.snd.snd.snd = x.snd.snd.snd.snd.snd.snd.snd ∧ True) ∧
 True))
 (Bool.true = Decidable.decide (x.fst = x.snd))))))))))) = Goal Try.prog [K_sTermSame] (A_sAtomSame x.1 x.2) K_sAtomSame.1 K_sAtomSame.2 (x) := by kernel_rfl

theorem vc_iAtomSame (x : Pl.Atm × Pl.Atm) : (condP (x.fst.fst == x.snd.fst)
 (Exists fun (x_1 : Pl.TP × Pl.TP) =>
 ((x.fst.snd.fst.fst = x_1.fst.fst ∧ Is (terms x.fst.snd.fst.snd) (terms x_1.fst.snd) ∧ True) ∧
 (x.snd.snd.fst.fst = x_1.snd.fst ∧ Is (terms x.snd.snd.fst.snd) (terms x_1.snd.snd) ∧ True) ∧ True) ∧
 SmT (Pl.Tree.mk x_1.fst.fst x_1.fst.snd) ∧
 condP (Decidable.decide (x_1.fst = x_1.snd))
 (Exists fun (x_2 : Pl.TP × Pl.TP) =>
 ((x.fst.snd.snd.fst.fst = x_2.fst.fst ∧ Is (terms x.fst.snd.snd.fst.snd) (terms x_2.fst.snd) ∧ True) ∧
 (x.snd.snd.snd.fst.fst = x_2.snd.fst ∧ Is (terms x.snd.snd.snd.fst.snd) (terms x_2.snd.snd) ∧ True) ∧ True) ∧
 SmT (Pl.Tree.mk x_2.fst.fst x_2.fst.snd) ∧
 condP (Decidable.decide (x_2.fst = x_2.snd))
 (Exists fun (x_3 : List Pl.Tm × List Pl.Tm) =>
 (Is (terms x.fst.snd.snd.snd.fst) (terms x_3.fst) ∧ Is (terms x.snd.snd.snd.snd.fst) (terms x_3.snd) ∧ True ∧ True) ∧
 SmTs x_3.fst ∧
 condP (Decidable.decide (x_3.fst = x_3.snd))
 (Exists fun (x_4 : List Int × List Int) =>
 (Is (ints x.fst.snd.snd.snd.snd.fst) (ints x_4.fst) ∧ Is (ints x.snd.snd.snd.snd.snd.fst) (ints x_4.snd) ∧ True) ∧
 Sz x_4.fst ∧
 condP (Decidable.decide (x_4.fst = x_4.snd))
 (condP (x.fst.snd.snd.snd.snd.snd.fst == x.snd.snd.snd.snd.snd.snd.fst)
 ((x.fst.snd.snd.snd.snd.snd.snd == x.snd.snd.snd.snd.snd.snd.snd) = Decidable.decide (x.fst = x.snd)) (Bool.false = Decidable.decide (x.fst = x.snd)))
 (Bool.false = Decidable.decide (x.fst = x.snd)))
 (Bool.false = Decidable.decide (x.fst = x.snd)))
 (Bool.false = Decidable.decide (x.fst = x.snd)))
 (Bool.false = Decidable.decide (x.fst = x.snd)))
 (Bool.false = Decidable.decide (x.fst = x.snd))) = Goal Try.prog [K_iTermSame, K_EqualTerms, K_slEqual] ([]) K_iAtomSame.1 K_iAtomSame.2 (x) := by kernel_rfl

theorem vc_xAtomSame (x : Pl.Atm × Pl.Atm) : (Exists fun (x_1 : Pl.Atm × Int) =>
 ((x.fst.fst = x_1.fst.fst ∧
 x.fst.snd.fst.fst = x_1.fst.snd.fst.fst ∧
 Is (terms x.fst.snd.fst.snd) (terms x_1.fst.snd.fst.snd) ∧
 x.fst.snd.snd.fst.fst = x_1.fst.snd.snd.fst.fst ∧
 Is (terms x.fst.snd.snd.fst.snd) (terms x_1.fst.snd.snd.fst.snd) ∧
 Is (terms x.fst.snd.snd.snd.fst) (terms x_1.fst.snd.snd.snd.fst) ∧
 Is (ints x.fst.snd.snd.snd.snd.fst) (ints x_1.fst.snd.snd.snd.snd.fst) ∧
 x.fst.snd.snd.snd.snd.snd.fst = x_1.fst.snd.snd.snd.snd.snd.fst ∧ x.fst.snd.snd.snd.snd.snd.snd = x_1.fst.snd.snd.snd.snd.snd.snd ∧ True) ∧
 (1048576 : Int) = x_1.snd ∧ True) ∧
 (MlA x_1.fst ∧ Fu x_1.snd) ∧
 condP (Decidable.decide (Pl.lim (x_1.snd - (↑(Pl.costA x_1.fst) : Int)) < (0 : Int))) (Bool.true = Bool.true)
 (Exists fun (x_2 : Pl.Atm × Int) =>
 ((x.snd.fst = x_2.fst.fst ∧
 x.snd.snd.fst.fst = x_2.fst.snd.fst.fst ∧
 Is (terms x.snd.snd.fst.snd) (terms x_2.fst.snd.fst.snd) ∧
 x.snd.snd.snd.fst.fst = x_2.fst.snd.snd.fst.fst ∧
 Is (terms x.snd.snd.snd.fst.snd) (terms x_2.fst.snd.snd.fst.snd) ∧
 Is (terms x.snd.snd.snd.snd.fst) (terms x_2.fst.snd.snd.snd.fst) ∧
 Is (ints x.snd.snd.snd.snd.snd.fst) (ints x_2.fst.snd.snd.snd.snd.fst) ∧
 x.snd.snd.snd.snd.snd.snd.fst = x_2.fst.snd.snd.snd.snd.snd.fst ∧ x.snd.snd.snd.snd.snd.snd.snd = x_2.fst.snd.snd.snd.snd.snd.snd ∧ True) ∧
 Pl.lim (x_1.snd - (↑(Pl.costA x_1.fst) : Int)) = x_2.snd ∧ True) ∧
 (MlA x_2.fst ∧ Fu x_2.snd) ∧
 condP (Decidable.decide (Pl.lim (x_2.snd - (↑(Pl.costA x_2.fst) : Int)) < (0 : Int))) (Bool.true = Bool.true)
 (Exists fun (x_3 : Pl.Atm) =>
 ((x.fst.fst = x_3.fst ∧
 x.fst.snd.fst.fst = x_3.snd.fst.fst ∧
 Is (terms x.fst.snd.fst.snd) (terms x_3.snd.fst.snd) ∧
 x.fst.snd.snd.fst.fst = x_3.snd.snd.fst.fst ∧
 Is (terms x.fst.snd.snd.fst.snd) (terms x_3.snd.snd.fst.snd) ∧
 Is (terms x.fst.snd.snd.snd.fst) (terms x_3.snd.snd.snd.fst) ∧
 Is (ints x.fst.snd.snd.snd.snd.fst) (ints x_3.snd.snd.snd.snd.fst) ∧
 x.fst.snd.snd.snd.snd.snd.fst = x_3.snd.snd.snd.snd.snd.fst ∧ x.fst.snd.snd.snd.snd.snd.snd = x_3.snd.snd.snd.snd.snd.snd ∧ True) ∧
 True) ∧
 SmA x_3 ∧
 Exists fun (x_4 : Pl.Atm) =>
 ((x.snd.fst = x_4.fst ∧
 x.snd.snd.fst.fst = x_4.snd.fst.fst ∧
 Is (terms x.snd.snd.fst.snd) (terms x_4.snd.fst.snd) ∧
 x.snd.snd.snd.fst.fst = x_4.snd.snd.fst.fst ∧
 Is (terms x.snd.snd.snd.fst.snd) (terms x_4.snd.snd.fst.snd) ∧
 Is (terms x.snd.snd.snd.snd.fst) (terms x_4.snd.snd.snd.fst) ∧
 Is (ints x.snd.snd.snd.snd.snd.fst) (ints x_4.snd.snd.snd.snd.fst) ∧
 x.snd.snd.snd.snd.snd.snd.fst = x_4.snd.snd.snd.snd.snd.fst ∧ x.snd.snd.snd.snd.snd.snd.snd = x_4.snd.snd.snd.snd.snd.snd ∧ True) ∧
 True) ∧
 SmA x_4 ∧
 Exists fun (x_5 : Pl.Atm × Pl.Atm) =>
 ((x_3.fst = x_5.fst.fst ∧
 x_3.snd.fst.fst = x_5.fst.snd.fst.fst ∧
 Is (terms x_3.snd.fst.snd) (terms x_5.fst.snd.fst.snd) ∧
 x_3.snd.snd.fst.fst = x_5.fst.snd.snd.fst.fst ∧
 Is (terms x_3.snd.snd.fst.snd) (terms x_5.fst.snd.snd.fst.snd) ∧
 Is (terms x_3.snd.snd.snd.fst) (terms x_5.fst.snd.snd.snd.fst) ∧
 Is (ints x_3.snd.snd.snd.snd.fst) (ints x_5.fst.snd.snd.snd.snd.fst) ∧
 x_3.snd.snd.snd.snd.snd.fst = x_5.fst.snd.snd.snd.snd.snd.fst ∧ x_3.snd.snd.snd.snd.snd.snd = x_5.fst.snd.snd.snd.snd.snd.snd ∧ True) ∧
 (x_4.fst = x_5.snd.fst ∧
 x_4.snd.fst.fst = x_5.snd.snd.fst.fst ∧
 Is (terms x_4.snd.fst.snd) (terms x_5.snd.snd.fst.snd) ∧
 x_4.snd.snd.fst.fst = x_5.snd.snd.snd.fst.fst ∧
 Is (terms x_4.snd.snd.fst.snd) (terms x_5.snd.snd.snd.fst.snd) ∧
 Is (terms x_4.snd.snd.snd.fst) (terms x_5.snd.snd.snd.snd.fst) ∧
 Is (ints x_4.snd.snd.snd.snd.fst) (ints x_5.snd.snd.snd.snd.snd.fst) ∧
 x_4.snd.snd.snd.snd.snd.fst = x_5.snd.snd.snd.snd.snd.snd.fst ∧ x_4.snd.snd.snd.snd.snd.snd = x_5.snd.snd.snd.snd.snd.snd.snd ∧ True) ∧
 True) ∧
 SmA x_5.fst ∧
 Exists fun (x_6 : Pl.Atm) =>
 ((x.fst.fst = x_6.fst ∧
 x.fst.snd.fst.fst = x_6.snd.fst.fst ∧
 Is (terms x.fst.snd.fst.snd) (terms x_6.snd.fst.snd) ∧
 x.fst.snd.snd.fst.fst = x_6.snd.snd.fst.fst ∧
 Is (terms x.fst.snd.snd.fst.snd) (terms x_6.snd.snd.fst.snd) ∧
 Is (terms x.fst.snd.snd.snd.fst) (terms x_6.snd.snd.snd.fst) ∧
 Is (ints x.fst.snd.snd.snd.snd.fst) (ints x_6.snd.snd.snd.snd.fst) ∧
 x.fst.snd.snd.snd.snd.snd.fst = x_6.snd.snd.snd.snd.snd.fst ∧ x.fst.snd.snd.snd.snd.snd.snd = x_6.snd.snd.snd.snd.snd.snd ∧ True) ∧
 True) ∧
 SmA x_6 ∧
 Exists fun (x_7 : Pl.Atm) =>
 ((x.snd.fst = x_7.fst ∧
 x.snd.snd.fst.fst = x_7.snd.fst.fst ∧
 Is (terms x.snd.snd.fst.snd) (terms x_7.snd.fst.snd) ∧
 x.snd.snd.snd.fst.fst = x_7.snd.snd.fst.fst ∧
 Is (terms x.snd.snd.snd.fst.snd) (terms x_7.snd.snd.fst.snd) ∧
 Is (terms x.snd.snd.snd.snd.fst) (terms x_7.snd.snd.snd.fst) ∧
 Is (ints x.snd.snd.snd.snd.snd.fst) (ints x_7.snd.snd.snd.snd.fst) ∧
 x.snd.snd.snd.snd.snd.snd.fst = x_7.snd.snd.snd.snd.snd.fst ∧ x.snd.snd.snd.snd.snd.snd.snd = x_7.snd.snd.snd.snd.snd.snd ∧ True) ∧
 True) ∧
 SmA x_7 ∧
 Exists fun (x_8 : Pl.Atm × Pl.Atm) =>
 ((x_6.fst = x_8.fst.fst ∧
 x_6.snd.fst.fst = x_8.fst.snd.fst.fst ∧
 Is (terms x_6.snd.fst.snd) (terms x_8.fst.snd.fst.snd) ∧
 x_6.snd.snd.fst.fst = x_8.fst.snd.snd.fst.fst ∧
 Is (terms x_6.snd.snd.fst.snd) (terms x_8.fst.snd.snd.fst.snd) ∧
 Is (terms x_6.snd.snd.snd.fst) (terms x_8.fst.snd.snd.snd.fst) ∧
 Is (ints x_6.snd.snd.snd.snd.fst) (ints x_8.fst.snd.snd.snd.snd.fst) ∧
 x_6.snd.snd.snd.snd.snd.fst = x_8.fst.snd.snd.snd.snd.snd.fst ∧
 x_6.snd.snd.snd.snd.snd.snd = x_8.fst.snd.snd.snd.snd.snd.snd ∧ True) ∧
 (x_7.fst = x_8.snd.fst ∧
 x_7.snd.fst.fst = x_8.snd.snd.fst.fst ∧
 Is (terms x_7.snd.fst.snd) (terms x_8.snd.snd.fst.snd) ∧
 x_7.snd.snd.fst.fst = x_8.snd.snd.snd.fst.fst ∧
 Is (terms x_7.snd.snd.fst.snd) (terms x_8.snd.snd.snd.fst.snd) ∧
 Is (terms x_7.snd.snd.snd.fst) (terms x_8.snd.snd.snd.snd.fst) ∧
 Is (ints x_7.snd.snd.snd.snd.fst) (ints x_8.snd.snd.snd.snd.snd.fst) ∧
 x_7.snd.snd.snd.snd.snd.fst = x_8.snd.snd.snd.snd.snd.snd.fst ∧
 x_7.snd.snd.snd.snd.snd.snd = x_8.snd.snd.snd.snd.snd.snd.snd ∧ True) ∧
 True) ∧
 SmA x_8.fst ∧
 condP (!Decidable.decide (x_8.fst = x_8.snd) == Decidable.decide (x_5.fst = x_5.snd)) (Bool.false = Bool.true)
 (Exists fun (x_9 : Pl.Atm) =>
 ((x.fst.fst = x_9.fst ∧
 x.fst.snd.fst.fst = x_9.snd.fst.fst ∧
 Is (terms x.fst.snd.fst.snd) (terms x_9.snd.fst.snd) ∧
 x.fst.snd.snd.fst.fst = x_9.snd.snd.fst.fst ∧
 Is (terms x.fst.snd.snd.fst.snd) (terms x_9.snd.snd.fst.snd) ∧
 Is (terms x.fst.snd.snd.snd.fst) (terms x_9.snd.snd.snd.fst) ∧
 Is (ints x.fst.snd.snd.snd.snd.fst) (ints x_9.snd.snd.snd.snd.fst) ∧
 x.fst.snd.snd.snd.snd.snd.fst = x_9.snd.snd.snd.snd.snd.fst ∧
 x.fst.snd.snd.snd.snd.snd.snd = x_9.snd.snd.snd.snd.snd.snd ∧ True) ∧
 True) ∧
 SmA x_9 ∧
 Exists fun (x_10 : Pl.Atm × Pl.Atm) =>
 ((x_6.fst = x_10.fst.fst ∧
 x_6.snd.fst.fst = x_10.fst.snd.fst.fst ∧
 Is (terms x_6.snd.fst.snd) (terms x_10.fst.snd.fst.snd) ∧
 x_6.snd.snd.fst.fst = x_10.fst.snd.snd.fst.fst ∧
 Is (terms x_6.snd.snd.fst.snd) (terms x_10.fst.snd.snd.fst.snd) ∧
 Is (terms x_6.snd.snd.snd.fst) (terms x_10.fst.snd.snd.snd.fst) ∧
 Is (ints x_6.snd.snd.snd.snd.fst) (ints x_10.fst.snd.snd.snd.snd.fst) ∧
 x_6.snd.snd.snd.snd.snd.fst = x_10.fst.snd.snd.snd.snd.snd.fst ∧
 x_6.snd.snd.snd.snd.snd.snd = x_10.fst.snd.snd.snd.snd.snd.snd ∧ True) ∧
 (x_9.fst = x_10.snd.fst ∧
 x_9.snd.fst.fst = x_10.snd.snd.fst.fst ∧
 Is (terms x_9.snd.fst.snd) (terms x_10.snd.snd.fst.snd) ∧
 x_9.snd.snd.fst.fst = x_10.snd.snd.snd.fst.fst ∧
 Is (terms x_9.snd.snd.fst.snd) (terms x_10.snd.snd.snd.fst.snd) ∧
 Is (terms x_9.snd.snd.snd.fst) (terms x_10.snd.snd.snd.snd.fst) ∧
 Is (ints x_9.snd.snd.snd.snd.fst) (ints x_10.snd.snd.snd.snd.snd.fst) ∧
 x_9.snd.snd.snd.snd.snd.fst = x_10.snd.snd.snd.snd.snd.snd.fst ∧
 x_9.snd.snd.snd.snd.snd.snd = x_10.snd.snd.snd.snd.snd.snd.snd ∧ True) ∧
 True) ∧
 SmA x_10.fst ∧
 condP (!Decidable.decide (x_10.fst = x_10.snd)) (Bool.false = Bool.true)
 (Exists fun (x_11 : Pl.Atm) =>
 ((x.snd.fst = x_11.fst ∧
 x.snd.snd.fst.fst = x_11.snd.fst.fst ∧
 Is (terms x.snd.snd.fst.snd) (terms x_11.snd.fst.snd) ∧
 x.snd.snd.snd.fst.fst = x_11.snd.snd.fst.fst ∧
 Is (terms x.snd.snd.snd.fst.snd) (terms x_11.snd.snd.fst.snd) ∧
 Is (terms x.snd.snd.snd.snd.fst) (terms x_11.snd.snd.snd.fst) ∧
 Is (ints x.snd.snd.snd.snd.snd.fst) (ints x_11.snd.snd.snd.snd.fst) ∧
 x.snd.snd.snd.snd.snd.snd.fst = x_11.snd.snd.snd.snd.snd.fst ∧
 x.snd.snd.snd.snd.snd.snd.snd = x_11.snd.snd.snd.snd.snd.snd ∧ True) ∧
 True) ∧
 SmA x_11 ∧
 Exists fun (x : Pl.Atm × Pl.Atm) =>
 ((x_7.fst = x.fst.fst ∧
 x_7.snd.fst.fst = x.fst.snd.fst.fst ∧
 Is (terms x_7.snd.fst.snd) (terms x.fst.snd.fst.snd) ∧
 x_7.snd.snd.fst.fst = x.fst.snd.snd.fst.fst ∧
 Is (terms x_7.snd.snd.fst.snd) (terms x.fst.snd.snd.fst.snd) ∧
 Is (terms x_7.snd.snd.snd.fst) (terms x.fst.snd.snd.snd.fst) ∧
 Is (ints x_7.snd.snd.snd.snd.fst) (ints x.fst.snd.snd.snd.snd.fst) ∧
 x_7.snd.snd.snd.snd.snd.fst = x.fst.snd.snd.snd.snd.snd.fst ∧
 x_7.snd.snd.snd.snd.snd.snd = x.fst.snd.snd.snd.snd.snd.snd ∧ True) ∧
 (x_11.fst = x.snd.fst ∧
 x_11.snd.fst.fst = x.snd.snd.fst.fst ∧
 Is (terms x_11.snd.fst.snd) (terms x.snd.snd.fst.snd) ∧
 x_11.snd.snd.fst.fst = x.snd.snd.snd.fst.fst ∧
 Is (terms x_11.snd.snd.fst.snd) (terms x.snd.snd.snd.fst.snd) ∧
 Is (terms x_11.snd.snd.snd.fst) (terms x.snd.snd.snd.snd.fst) ∧
 Is (ints x_11.snd.snd.snd.snd.fst) (ints x.snd.snd.snd.snd.snd.fst) ∧
 x_11.snd.snd.snd.snd.snd.fst = x.snd.snd.snd.snd.snd.snd.fst ∧
 x_11.snd.snd.snd.snd.snd.snd = x.snd.snd.snd.snd.snd.snd.snd ∧ True) ∧
 True) ∧
 SmA x.fst ∧ condP (!Decidable.decide (x.fst = x.snd)) (Bool.false = Bool.true) (Bool.true = Bool.true)))))) = Goal Try.prog [K_szAtom, K_toAtom, K_sAtomSame, K_iAtomSame, K_eqAtom] ([]) K_xAtomSame.1 K_xAtomSame.2 (x) := by kernel_rfl

theorem vc_szWhy_ (n : Nat) (x : Pl.WP × Int) : (Exists fun (x_1 : Pl.TP × Int) =>
 ((x.fst.fst.snd.snd.fst = x_1.fst.fst ∧ Is (terms x.fst.fst.snd.snd.snd) (terms x_1.fst.snd) ∧ True) ∧ x.snd = x_1.snd ∧ True) ∧
 (MlT (Pl.Tree.mk x_1.fst.fst x_1.fst.snd) ∧ Fu x_1.snd) ∧
 condP (Decidable.decide (Pl.lim (x_1.snd - (↑(Pl.costT (Pl.Tree.mk x_1.fst.fst x_1.fst.snd)) : Int)) < (0 : Int)))
 ((-1 : Int) = Pl.lim (x.snd - (↑(Pl.costTr Pl.costPW (Pl.Tree.mk x.fst.fst x.fst.snd)) : Int)))
 (Exists fun (x_2 : List Pl.Wy × Int) =>
 (Is (whys x.fst.snd) (whys x_2.fst) ∧ Pl.lim (x_1.snd - (↑(Pl.costT (Pl.Tree.mk x_1.fst.fst x_1.fst.snd)) : Int)) = x_2.snd ∧ True) ∧
 (((Ml x_2.fst ∧ ∀ (t : Pl.Wy), t ∈ x_2.fst → MlW t) ∧ Fu x_2.snd) ∧ Pl.manyL x_2.fst < n) ∧
 condP (Decidable.decide (Pl.lim (x_2.snd - (↑(x_2.fst.length + Pl.costTrs Pl.costPW x_2.fst) : Int)) < (0 : Int)))
 ((-1 : Int) = Pl.lim (x.snd - (↑(Pl.costTr Pl.costPW (Pl.Tree.mk x.fst.fst x.fst.snd)) : Int)))
 (Pl.lim (x_2.snd - (↑(x_2.fst.length + Pl.costTrs Pl.costPW x_2.fst) : Int)) = Pl.lim (x.snd - (↑(Pl.costTr Pl.costPW (Pl.Tree.mk x.fst.fst x.fst.snd)) : Int))))) = Goal Try.prog [K_szT, (K_szWhyS_ n)] ([]) (K_szWhy_ n).1 (K_szWhy_ n).2 (x) := by kernel_rfl

theorem vc_szWhyS_ (n : Nat) (x : List Pl.Wy × Int) : (condP (Decidable.decide (IntKind.i64.wrap (x.snd - (↑x.fst.length : Int)) < (0 : Int))) ((-1 : Int) = Pl.lim (x.snd - (↑(x.fst.length + Pl.costTrs Pl.costPW x.fst) : Int)))
 ((Exists fun (x_1 : Nat) =>
 (x_1 ≤ x.fst.length ∧ (0 : Int) ≤ x.snd - (↑x.fst.length : Int) - (↑(Pl.costTrs Pl.costPW (List.take x_1 x.fst)) : Int)) ∧
 (Is (whys x.fst) (whys x.fst) ∧
 IntKind.i64.wrap (x.snd - (↑x.fst.length : Int)) = x.snd - (↑x.fst.length : Int) - (↑(Pl.costTrs Pl.costPW (List.take x_1 x.fst)) : Int) ∧ (0 : Int) = (↑x_1 : Int) ∧ True) ∧
 True) ∧
 ∀ (x_1 : Nat),
 x_1 ≤ x.fst.length ∧ (0 : Int) ≤ x.snd - (↑x.fst.length : Int) - (↑(Pl.costTrs Pl.costPW (List.take x_1 x.fst)) : Int) →
 condP (Decidable.decide ((↑x_1 : Int) < (↑x.fst.length : Int)))
 (((0 : Int) ≤ (↑x_1 : Int) ∧ (↑x_1 : Int) < (↑x.fst.length : Int)) ∧
 x_1 < x.fst.length ∧
 Exists fun (x_2 : Pl.WP × Int) =>
 (((Pl.Tree.val (x.fst.getD x_1 Pl.dW)).fst = x_2.fst.fst.fst ∧
 (Pl.Tree.val (x.fst.getD x_1 Pl.dW)).snd.fst = x_2.fst.fst.snd.fst ∧
 (Pl.Tree.val (x.fst.getD x_1 Pl.dW)).snd.snd.fst = x_2.fst.fst.snd.snd.fst ∧
 Is (terms (Pl.Tree.val (x.fst.getD x_1 Pl.dW)).snd.snd.snd) (terms x_2.fst.fst.snd.snd.snd) ∧ Is (kidsW (x.fst.getD x_1 Pl.dW)) (whys x_2.fst.snd) ∧ True) ∧
 x.snd - (↑x.fst.length : Int) - (↑(Pl.costTrs Pl.costPW (List.take x_1 x.fst)) : Int) = x_2.snd ∧ True) ∧
 ((MlW (Pl.Tree.mk x_2.fst.fst x_2.fst.snd) ∧ Fu x_2.snd) ∧ Pl.manyL x_2.fst.snd < n) ∧
 condP (Decidable.decide (Pl.lim (x_2.snd - (↑(Pl.costTr Pl.costPW (Pl.Tree.mk x_2.fst.fst x_2.fst.snd)) : Int)) < (0 : Int)))
 ((-1 : Int) = Pl.lim (x.snd - (↑(x.fst.length + Pl.costTrs Pl.costPW x.fst) : Int)))
 (Exists fun (x' : Nat) =>
 (x' ≤ x.fst.length ∧ (0 : Int) ≤ x.snd - (↑x.fst.length : Int) - (↑(Pl.costTrs Pl.costPW (List.take x' x.fst)) : Int)) ∧
 x.fst.length - x' < x.fst.length - x_1 ∧
 (Is (whys x.fst) (whys x.fst) ∧
 Pl.lim (x_2.snd - (↑(Pl.costTr Pl.costPW (Pl.Tree.mk x_2.fst.fst x_2.fst.snd)) : Int)) =
 x.snd - (↑x.fst.length : Int) - (↑(Pl.costTrs Pl.costPW (List.take x' x.fst)) : Int) ∧
 IntKind.i64.wrap ((↑x_1 : Int) + (1 : Int)) = (↑x' : Int) ∧ True) ∧
 True))
 (x.snd - (↑x.fst.length : Int) - (↑(Pl.costTrs Pl.costPW (List.take x_1 x.fst)) : Int) = Pl.lim (x.snd - (↑(x.fst.length + Pl.costTrs Pl.costPW x.fst) : Int))))) = Goal Try.prog [(K_szWhy_ n)] (A_szWhyS x.1 x.2) (K_szWhyS_ (n + 1)).1 (K_szWhyS_ (n + 1)).2 (x) := by kernel_rfl

theorem vc_toWhy_ (n : Nat) (x : Pl.WP) : (Exists fun (x_1 : Pl.TP) =>
 ((x.fst.snd.snd.fst = x_1.fst ∧ Is (terms x.fst.snd.snd.snd) (terms x_1.snd) ∧ True) ∧ True) ∧
 SmT (Pl.Tree.mk x_1.fst x_1.snd) ∧
 Exists fun (x_2 : List Pl.Wy) =>
 (Is (whys x.snd) (whys x_2) ∧ True) ∧
 (SmTrs Pl.costPW x_2 ∧ Pl.manyL x_2 < n) ∧
 x.fst.fst = x.fst.fst ∧ x.fst.snd.fst = x.fst.snd.fst ∧ x_1.fst = x.fst.snd.snd.fst ∧ Is (terms x_1.snd) (terms x.fst.snd.snd.snd) ∧ Is (whys x_2) (whys x.snd) ∧ True) = Goal Try.prog [K_toT, (K_toWhyS_ n)] ([]) (K_toWhy_ n).1 (K_toWhy_ n).2 (x) := by kernel_rfl

theorem vc_toWhyS_ (n : Nat) (x : List Pl.Wy) : ((0 : Int) ≤ (↑x.length : Int) ∧
 (↑x.length : Int) ≤ (↑x.length : Int) ∧
 (↑(80 : Nat) : Int) * (↑x.length : Int) ≤ (140737488355328 : Int) ∧
 (↑x.length : Int) ≤ (140737488355328 : Int) ∧
 (Exists fun (x_1 : Nat × List Pl.Wy) =>
 (x_1.fst ≤ x.length ∧ x_1.snd.length = x.length ∧ List.take x_1.fst x_1.snd = List.take x_1.fst x) ∧
 (Is (whys x) (whys x) ∧ ((0 : Nat) = (0 : Nat) ∧ x.length = x_1.snd.length) ∧ (0 : Int) = (↑x_1.fst : Int) ∧ True) ∧
 IsO
 (AObj.arr x.length (5 : Nat) fun (x j : Nat) =>
 [i64 (0 : Int), i64 (0 : Int), st { data := #[] }, AV.lit (0 : Nat) (1 : Nat) fun (x x_2 : Nat) => AV.any,
 AV.lit (0 : Nat) (1 : Nat) fun (x x_2 : Nat) => AV.any].getD
 j AV.any)
 (arW x_1.snd) ∧
 True) ∧
 ∀ (x_1 : Nat × List Pl.Wy),
 x_1.fst ≤ x.length ∧ x_1.snd.length = x.length ∧ List.take x_1.fst x_1.snd = List.take x_1.fst x →
 condP (Decidable.decide ((↑x_1.fst : Int) < (↑x.length : Int)))
 (((0 : Int) ≤ (↑x_1.fst : Int) ∧ (↑x_1.fst : Int) < (↑x.length : Int)) ∧
 x_1.fst < x.length ∧
 Exists fun (x_2 : Pl.WP) =>
 (((Pl.Tree.val (x.getD x_1.fst Pl.dW)).fst = x_2.fst.fst ∧
 (Pl.Tree.val (x.getD x_1.fst Pl.dW)).snd.fst = x_2.fst.snd.fst ∧
 (Pl.Tree.val (x.getD x_1.fst Pl.dW)).snd.snd.fst = x_2.fst.snd.snd.fst ∧
 Is (terms (Pl.Tree.val (x.getD x_1.fst Pl.dW)).snd.snd.snd) (terms x_2.fst.snd.snd.snd) ∧ Is (kidsW (x.getD x_1.fst Pl.dW)) (whys x_2.snd) ∧ True) ∧
 True) ∧
 (SmTr Pl.costPW (Pl.Tree.mk x_2.fst x_2.snd) ∧ Pl.manyL x_2.snd < n) ∧
 ((0 : Int) ≤ (↑x_1.fst : Int) ∧ (↑x_1.fst : Int) < (↑x_1.snd.length : Int)) ∧
 x_1.fst < x_1.snd.length ∧
 Exists fun (x' : Nat × List Pl.Wy) =>
 (x'.fst ≤ x.length ∧ x'.snd.length = x.length ∧ List.take x'.fst x'.snd = List.take x'.fst x) ∧
 x.length - x'.fst < x.length - x_1.fst ∧
 (Is (whys x) (whys x) ∧
 ((0 : Nat) = (0 : Nat) ∧ x_1.snd.length = x'.snd.length) ∧ IntKind.i64.wrap ((↑x_1.fst : Int) + (1 : Int)) = (↑x'.fst : Int) ∧ True) ∧
 IsO
 (AObj.arr x_1.snd.length (5 : Nat)
 (storeC (cW x_1.snd) x_1.fst (0 : Nat)
 [i64 x_2.fst.fst, i64 x_2.fst.snd.fst, st x_2.fst.snd.snd.fst, terms x_2.fst.snd.snd.snd, whys x_2.snd]))
 (arW x'.snd) ∧
 True)
 ((0 : Nat) + x_1.snd.length ≤ x_1.snd.length ∧ Is (whys x_1.snd) (whys x))) = Goal Try.prog [(K_toWhy_ n)] (A_toWhyS x) (K_toWhyS_ (n + 1)).1 (K_toWhyS_ (n + 1)).2 (x) := by kernel_rfl

theorem vc_eqWhy_ (n : Nat) (x : Pl.WP × Pl.WP) : (condP (x.fst.fst.fst != x.snd.fst.fst) (Bool.false = Decidable.decide (x.fst = x.snd))
 (condP (x.fst.fst.snd.fst != x.snd.fst.snd.fst) (Bool.false = Decidable.decide (x.fst = x.snd))
 (Exists fun (x_1 : Pl.TP × Pl.TP) =>
 ((x.fst.fst.snd.snd.fst = x_1.fst.fst ∧ Is (terms x.fst.fst.snd.snd.snd) (terms x_1.fst.snd) ∧ True) ∧
 (x.snd.fst.snd.snd.fst = x_1.snd.fst ∧ Is (terms x.snd.fst.snd.snd.snd) (terms x_1.snd.snd) ∧ True) ∧ True) ∧
 SmT (Pl.Tree.mk x_1.fst.fst x_1.fst.snd) ∧
 condP (!Decidable.decide (x_1.fst = x_1.snd)) (Bool.false = Decidable.decide (x.fst = x.snd))
 (Exists fun (x_2 : List Pl.Wy × List Pl.Wy) =>
 (Is (whys x.fst.snd) (whys x_2.fst) ∧ Is (whys x.snd.snd) (whys x_2.snd) ∧ True) ∧
 (SmTrs Pl.costPW x_2.fst ∧ Pl.manyL x_2.fst < n) ∧
 condP (!Decidable.decide (x_2.fst = x_2.snd)) (Bool.false = Decidable.decide (x.fst = x.snd)) (Bool.true = Decidable.decide (x.fst = x.snd)))))) = Goal Try.prog [K_eqT, (K_eqWhyS_ n)] ([]) (K_eqWhy_ n).1 (K_eqWhy_ n).2 (x) := by kernel_rfl

theorem vc_eqWhyS_ (n : Nat) (x : List Pl.Wy × List Pl.Wy) : (condP ((↑x.fst.length : Int) != (↑x.snd.length : Int)) (Bool.false = Decidable.decide (x.fst = x.snd))
 ((Exists fun (x_1 : Nat) =>
 (x_1 ≤ x.fst.length ∧ x.fst.length = x.snd.length ∧ (x.fst = x.snd ↔ List.drop x_1 x.fst = List.drop x_1 x.snd)) ∧
 (Is (whys x.fst) (whys x.fst) ∧ Is (whys x.snd) (whys x.snd) ∧ (0 : Int) = (↑x_1 : Int) ∧ True) ∧ True) ∧
 ∀ (x_1 : Nat),
 x_1 ≤ x.fst.length ∧ x.fst.length = x.snd.length ∧ (x.fst = x.snd ↔ List.drop x_1 x.fst = List.drop x_1 x.snd) →
 condP (Decidable.decide ((↑x_1 : Int) < (↑x.fst.length : Int)))
 (((0 : Int) ≤ (↑x_1 : Int) ∧ (↑x_1 : Int) < (↑x.fst.length : Int)) ∧
 x_1 < x.fst.length ∧
 ((0 : Int) ≤ (↑x_1 : Int) ∧ (↑x_1 : Int) < (↑x.snd.length : Int)) ∧
 x_1 < x.snd.length ∧
 Exists fun (x_2 : Pl.WP × Pl.WP) =>
 (((Pl.Tree.val (x.fst.getD x_1 Pl.dW)).fst = x_2.fst.fst.fst ∧
 (Pl.Tree.val (x.fst.getD x_1 Pl.dW)).snd.fst = x_2.fst.fst.snd.fst ∧
 (Pl.Tree.val (x.fst.getD x_1 Pl.dW)).snd.snd.fst = x_2.fst.fst.snd.snd.fst ∧
 Is (terms (Pl.Tree.val (x.fst.getD x_1 Pl.dW)).snd.snd.snd) (terms x_2.fst.fst.snd.snd.snd) ∧
 Is (kidsW (x.fst.getD x_1 Pl.dW)) (whys x_2.fst.snd) ∧ True) ∧
 ((Pl.Tree.val (x.snd.getD x_1 Pl.dW)).fst = x_2.snd.fst.fst ∧
 (Pl.Tree.val (x.snd.getD x_1 Pl.dW)).snd.fst = x_2.snd.fst.snd.fst ∧
 (Pl.Tree.val (x.snd.getD x_1 Pl.dW)).snd.snd.fst = x_2.snd.fst.snd.snd.fst ∧
 Is (terms (Pl.Tree.val (x.snd.getD x_1 Pl.dW)).snd.snd.snd) (terms x_2.snd.fst.snd.snd.snd) ∧
 Is (kidsW (x.snd.getD x_1 Pl.dW)) (whys x_2.snd.snd) ∧ True) ∧
 True) ∧
 (SmTr Pl.costPW (Pl.Tree.mk x_2.fst.fst x_2.fst.snd) ∧ Pl.manyL x_2.fst.snd < n) ∧
 condP (!Decidable.decide (x_2.fst = x_2.snd)) (Bool.false = Decidable.decide (x.fst = x.snd))
 (Exists fun (x' : Nat) =>
 (x' ≤ x.fst.length ∧ x.fst.length = x.snd.length ∧ (x.fst = x.snd ↔ List.drop x' x.fst = List.drop x' x.snd)) ∧
 x.fst.length - x' < x.fst.length - x_1 ∧
 (Is (whys x.fst) (whys x.fst) ∧ Is (whys x.snd) (whys x.snd) ∧ IntKind.i64.wrap ((↑x_1 : Int) + (1 : Int)) = (↑x' : Int) ∧ True) ∧ True))
 (Bool.true = Decidable.decide (x.fst = x.snd)))) = Goal Try.prog [(K_eqWhy_ n)] (A_eqWhyS x.1 x.2) (K_eqWhyS_ (n + 1)).1 (K_eqWhyS_ (n + 1)).2 (x) := by kernel_rfl

theorem vc_sWhySame_ (n : Nat) (x : Pl.WP × Pl.WP) : (condP (x.fst.fst.fst != x.snd.fst.fst) (Bool.false = Decidable.decide (x.fst = x.snd))
 (condP (x.fst.fst.snd.fst != x.snd.fst.snd.fst) (Bool.false = Decidable.decide (x.fst = x.snd))
 (Exists fun (x_1 : Pl.TP × Pl.TP) =>
 ((x.fst.fst.snd.snd.fst = x_1.fst.fst ∧ Is (terms x.fst.fst.snd.snd.snd) (terms x_1.fst.snd) ∧ True) ∧
 (x.snd.fst.snd.snd.fst = x_1.snd.fst ∧ Is (terms x.snd.fst.snd.snd.snd) (terms x_1.snd.snd) ∧ True) ∧ True) ∧
 SmT (Pl.Tree.mk x_1.fst.fst x_1.fst.snd) ∧
 condP (!Decidable.decide (x_1.fst = x_1.snd)) (Bool.false = Decidable.decide (x.fst = x.snd))
 (condP ((↑x.fst.snd.length : Int) != (↑x.snd.snd.length : Int)) (Bool.false = Decidable.decide (x.fst = x.snd))
 ((Exists fun (x_2 : Nat) =>
 (x_2 ≤ x.fst.snd.length ∧ x.fst.snd.length = x.snd.snd.length ∧ x.fst.fst = x.snd.fst ∧ (x.fst.snd = x.snd.snd ↔ List.drop x_2 x.fst.snd = List.drop x_2 x.snd.snd)) ∧
 ((0 : Nat) = (0 : Nat) ∧ (0 : Nat) = (0 : Nat) ∧ (0 : Int) = (↑x_2 : Int) ∧ True) ∧
 (x.fst.fst.fst = x.fst.fst.fst ∧
 x.fst.fst.snd.fst = x.fst.fst.snd.fst ∧
 x.fst.fst.snd.snd.fst = x.fst.fst.snd.snd.fst ∧
 Is (terms x.fst.fst.snd.snd.snd) (terms x.fst.fst.snd.snd.snd) ∧ Is (whys x.fst.snd) (whys x.fst.snd) ∧ True) ∧
 (x.snd.fst.fst = x.snd.fst.fst ∧
 x.snd.fst.snd.fst = x.snd.fst.snd.fst ∧
 x.snd.fst.snd.snd.fst = x.snd.fst.snd.snd.fst ∧
 Is (terms x.snd.fst.snd.snd.snd) (terms x.snd.fst.snd.snd.snd) ∧ Is (whys x.snd.snd) (whys x.snd.snd) ∧ True) ∧
 True) ∧
 ∀ (x_2 : Nat),
 x_2 ≤ x.fst.snd.length ∧ x.fst.snd.length = x.snd.snd.length ∧ x.fst.fst = x.snd.fst ∧ (x.fst.snd = x.snd.snd ↔ List.drop x_2 x.fst.snd = List.drop x_2 x.snd.snd) →
 condP (Decidable.decide ((↑x_2 : Int) < (↑x.fst.snd.length : Int)))
 (((0 : Int) ≤ (↑x_2 : Int) ∧ (↑x_2 : Int) < (↑x.fst.snd.length : Int)) ∧
 x_2 < x.fst.snd.length ∧
 ((0 : Int) ≤ (↑x_2 : Int) ∧ (↑x_2 : Int) < (↑x.snd.snd.length : Int)) ∧
 x_2 < x.snd.snd.length ∧
 Exists fun (x_3 : Pl.WP × Pl.WP) =>
 (((Pl.Tree.val (x.fst.snd.getD x_2 Pl.dW)).fst = x_3.fst.fst.fst ∧
 (Pl.Tree.val (x.fst.snd.getD x_2 Pl.dW)).snd.fst = x_3.fst.fst.snd.fst ∧
 (Pl.Tree.val (x.fst.snd.getD x_2 Pl.dW)).snd.snd.fst = x_3.fst.fst.snd.snd.fst ∧
 Is (terms (Pl.Tree.val (x.fst.snd.getD x_2 Pl.dW)).snd.snd.snd) (terms x_3.fst.fst.snd.snd.snd) ∧
 Is (kidsW (x.fst.snd.getD x_2 Pl.dW)) (whys x_3.fst.snd) ∧ True) ∧
 ((Pl.Tree.val (x.snd.snd.getD x_2 Pl.dW)).fst = x_3.snd.fst.fst ∧
 (Pl.Tree.val (x.snd.snd.getD x_2 Pl.dW)).snd.fst = x_3.snd.fst.snd.fst ∧
 (Pl.Tree.val (x.snd.snd.getD x_2 Pl.dW)).snd.snd.fst = x_3.snd.fst.snd.snd.fst ∧
 Is (terms (Pl.Tree.val (x.snd.snd.getD x_2 Pl.dW)).snd.snd.snd) (terms x_3.snd.fst.snd.snd.snd) ∧
 Is (kidsW (x.snd.snd.getD x_2 Pl.dW)) (whys x_3.snd.snd) ∧ True) ∧
 True) ∧
 (SmTr Pl.costPW (Pl.Tree.mk x_3.fst.fst x_3.fst.snd) ∧ Pl.manyL x_3.fst.snd < n) ∧
 condP (!Decidable.decide (x_3.fst = x_3.snd)) (Bool.false = Decidable.decide (x.fst = x.snd))
 (Exists fun (x' : Nat) =>
 (x' ≤ x.fst.snd.length ∧
 x.fst.snd.length = x.snd.snd.length ∧ x.fst.fst = x.snd.fst ∧ (x.fst.snd = x.snd.snd ↔ List.drop x' x.fst.snd = List.drop x' x.snd.snd)) ∧
 x.fst.snd.length - x' < x.fst.snd.length - x_2 ∧
 ((0 : Nat) = (0 : Nat) ∧ (0 : Nat) = (0 : Nat) ∧ IntKind.i64.wrap ((↑x_2 : Int) + (1 : Int)) = (↑x' : Int) ∧ True) ∧
 (x.fst.fst.fst = x.fst.fst.fst ∧
 x.fst.fst.snd.fst = x.fst.fst.snd.fst ∧
 x.fst.fst.snd.snd.fst = x.fst.fst.snd.snd.fst ∧
 Is (terms x.fst.fst.snd.snd.snd) (terms x.fst.fst.snd.snd.snd) ∧ Is (whys x.fst.snd) (whys x.fst.snd) ∧ True) ∧
 (x.snd.fst.fst = x.snd.fst.fst ∧
 x.snd.fst.snd.fst = x.snd.fst.snd.fst ∧
 x.snd.fst.snd.snd.fst = x.snd.fst.snd.snd.fst ∧
 Is (terms x.snd.fst.snd.snd.snd) (terms x.snd.fst.snd.snd.snd) ∧ Is (whys x.snd.snd) (whys x.snd.snd) ∧ True) ∧
 True))
 (Bool.true = Decidable.decide (x.fst = x.snd))))))) = Goal Try.prog [K_sTermSame, (K_sWhySame_ n)] (A_sWhySame x.1 x.2) (K_sWhySame_ (n + 1)).1 (K_sWhySame_ (n + 1)).2 (x) := by kernel_rfl

theorem vc_iWhySame_ (n : Nat) (x : Pl.WP × Pl.WP) : (condP (x.fst.fst.fst == x.snd.fst.fst)
 (condP (x.fst.fst.snd.fst == x.snd.fst.snd.fst)
 (Exists fun (x_1 : Pl.TP × Pl.TP) =>
 ((x.fst.fst.snd.snd.fst = x_1.fst.fst ∧ Is (terms x.fst.fst.snd.snd.snd) (terms x_1.fst.snd) ∧ True) ∧
 (x.snd.fst.snd.snd.fst = x_1.snd.fst ∧ Is (terms x.snd.fst.snd.snd.snd) (terms x_1.snd.snd) ∧ True) ∧ True) ∧
 SmT (Pl.Tree.mk x_1.fst.fst x_1.fst.snd) ∧
 condP (Decidable.decide (x_1.fst = x_1.snd))
 (Exists fun (x_2 : List Pl.Wy × List Pl.Wy) =>
 (Is (whys x.fst.snd) (whys x_2.fst) ∧ Is (whys x.snd.snd) (whys x_2.snd) ∧ True ∧ True) ∧
 (SmTrs Pl.costPW x_2.fst ∧ Pl.manyL x_2.fst < n) ∧ Decidable.decide (x_2.fst = x_2.snd) = Decidable.decide (x.fst = x.snd))
 (Bool.false = Decidable.decide (x.fst = x.snd)))
 (Bool.false = Decidable.decide (x.fst = x.snd)))
 (Bool.false = Decidable.decide (x.fst = x.snd))) = Goal Try.prog [K_iTermSame, (K_EqualWhy_ n)] ([]) (K_iWhySame_ n).1 (K_iWhySame_ n).2 (x) := by kernel_rfl

theorem vc_EqualWhy_ (n : Nat) (x : List Pl.Wy × List Pl.Wy) : (condP ((↑x.fst.length : Int) != (↑x.snd.length : Int)) (Bool.false = Decidable.decide (x.fst = x.snd))
 ((Exists fun (x_1 : Nat) =>
 (x_1 ≤ x.fst.length ∧ x.fst.length = x.snd.length ∧ (x.fst = x.snd ↔ List.drop x_1 x.fst = List.drop x_1 x.snd)) ∧
 (Is (whys x.fst) (whys x.fst) ∧
 Is (whys x.snd) (whys x.snd) ∧ True ∧ Is (whys x.fst) (whys x.fst) ∧ (↑x.fst.length : Int) = (↑x.fst.length : Int) ∧ (0 : Int) = (↑x_1 : Int) ∧ True) ∧
 True) ∧
 ∀ (x_1 : Nat),
 x_1 ≤ x.fst.length ∧ x.fst.length = x.snd.length ∧ (x.fst = x.snd ↔ List.drop x_1 x.fst = List.drop x_1 x.snd) →
 condP (Decidable.decide ((↑x_1 : Int) < (↑x.fst.length : Int)))
 (((0 : Int) ≤ (↑x_1 : Int) ∧ (↑x_1 : Int) < (↑x.fst.length : Int)) ∧
 x_1 < x.fst.length ∧
 ((0 : Int) ≤ (↑x_1 : Int) ∧ (↑x_1 : Int) < (↑x.snd.length : Int)) ∧
 x_1 < x.snd.length ∧
 Exists fun (x_2 : Pl.WP × Pl.WP) =>
 (((Pl.Tree.val (x.fst.getD x_1 Pl.dW)).fst = x_2.fst.fst.fst ∧
 (Pl.Tree.val (x.fst.getD x_1 Pl.dW)).snd.fst = x_2.fst.fst.snd.fst ∧
 (Pl.Tree.val (x.fst.getD x_1 Pl.dW)).snd.snd.fst = x_2.fst.fst.snd.snd.fst ∧
 Is (terms (Pl.Tree.val (x.fst.getD x_1 Pl.dW)).snd.snd.snd) (terms x_2.fst.fst.snd.snd.snd) ∧
 Is (kidsW (x.fst.getD x_1 Pl.dW)) (whys x_2.fst.snd) ∧ True) ∧
 ((Pl.Tree.val (x.snd.getD x_1 Pl.dW)).fst = x_2.snd.fst.fst ∧
 (Pl.Tree.val (x.snd.getD x_1 Pl.dW)).snd.fst = x_2.snd.fst.snd.fst ∧
 (Pl.Tree.val (x.snd.getD x_1 Pl.dW)).snd.snd.fst = x_2.snd.fst.snd.snd.fst ∧
 Is (terms (Pl.Tree.val (x.snd.getD x_1 Pl.dW)).snd.snd.snd) (terms x_2.snd.fst.snd.snd.snd) ∧
 Is (kidsW (x.snd.getD x_1 Pl.dW)) (whys x_2.snd.snd) ∧ True) ∧
 True) ∧
 (SmTr Pl.costPW (Pl.Tree.mk x_2.fst.fst x_2.fst.snd) ∧ Pl.manyL x_2.fst.snd < n) ∧
 condP (!Decidable.decide (x_2.fst = x_2.snd)) (Bool.false = Decidable.decide (x.fst = x.snd))
 (Exists fun (x' : Nat) =>
 (x' ≤ x.fst.length ∧ x.fst.length = x.snd.length ∧ (x.fst = x.snd ↔ List.drop x' x.fst = List.drop x' x.snd)) ∧
 x.fst.length - x' < x.fst.length - x_1 ∧
 (Is (whys x.fst) (whys x.fst) ∧
 Is (whys x.snd) (whys x.snd) ∧
 True ∧
 Is (whys x.fst) (whys x.fst) ∧ (↑x.fst.length : Int) = (↑x.fst.length : Int) ∧ IntKind.i64.wrap ((↑x_1 : Int) + (1 : Int)) = (↑x' : Int) ∧ True) ∧
 True))
 (Bool.true = Decidable.decide (x.fst = x.snd)))) = Goal Try.prog [(K_iWhySame_ n)] (A_EqualWhy x.1 x.2) (K_EqualWhy_ (n + 1)).1 (K_EqualWhy_ (n + 1)).2 (x) := by kernel_rfl

theorem vc_szForm_ (n : Nat) (x : Pl.FP × Int) : (Exists fun (x_1 : Pl.Ltr × Int) =>
 ((x.fst.fst.snd.fst.fst = x_1.fst.fst.fst ∧
 x.fst.fst.snd.fst.snd.fst.fst = x_1.fst.fst.snd.fst.fst ∧
 Is (terms x.fst.fst.snd.fst.snd.fst.snd) (terms x_1.fst.fst.snd.fst.snd) ∧
 x.fst.fst.snd.fst.snd.snd.fst.fst = x_1.fst.fst.snd.snd.fst.fst ∧
 Is (terms x.fst.fst.snd.fst.snd.snd.fst.snd) (terms x_1.fst.fst.snd.snd.fst.snd) ∧
 Is (terms x.fst.fst.snd.fst.snd.snd.snd.fst) (terms x_1.fst.fst.snd.snd.snd.fst) ∧
 Is (ints x.fst.fst.snd.fst.snd.snd.snd.snd.fst) (ints x_1.fst.fst.snd.snd.snd.snd.fst) ∧
 x.fst.fst.snd.fst.snd.snd.snd.snd.snd.fst = x_1.fst.fst.snd.snd.snd.snd.snd.fst ∧
 x.fst.fst.snd.fst.snd.snd.snd.snd.snd.snd = x_1.fst.fst.snd.snd.snd.snd.snd.snd ∧ x.fst.fst.snd.snd = x_1.fst.snd ∧ True) ∧
 x.snd = x_1.snd ∧ True) ∧
 (MlA x_1.fst.fst ∧ Fu x_1.snd) ∧
 condP (Decidable.decide (Pl.lim (x_1.snd - (↑(Pl.costL x_1.fst) : Int)) < (0 : Int))) ((-1 : Int) = Pl.lim (x.snd - (↑(Pl.costTr Pl.costPF (Pl.Tree.mk x.fst.fst x.fst.snd)) : Int)))
 (Exists fun (x_2 : List Pl.Frm × Int) =>
 (Is (forms x.fst.snd) (forms x_2.fst) ∧ Pl.lim (x_1.snd - (↑(Pl.costL x_1.fst) : Int)) = x_2.snd ∧ True) ∧
 (((Ml x_2.fst ∧ ∀ (t : Pl.Frm), t ∈ x_2.fst → MlF t) ∧ Fu x_2.snd) ∧ Pl.manyL x_2.fst < n) ∧
 condP (Decidable.decide (Pl.lim (x_2.snd - (↑(x_2.fst.length + Pl.costTrs Pl.costPF x_2.fst) : Int)) < (0 : Int)))
 ((-1 : Int) = Pl.lim (x.snd - (↑(Pl.costTr Pl.costPF (Pl.Tree.mk x.fst.fst x.fst.snd)) : Int)))
 (Pl.lim (x_2.snd - (↑(x_2.fst.length + Pl.costTrs Pl.costPF x_2.fst) : Int)) = Pl.lim (x.snd - (↑(Pl.costTr Pl.costPF (Pl.Tree.mk x.fst.fst x.fst.snd)) : Int))))) = Goal Try.prog [K_szLit, (K_szFormS_ n)] ([]) (K_szForm_ n).1 (K_szForm_ n).2 (x) := by kernel_rfl

theorem vc_szFormS_ (n : Nat) (x : List Pl.Frm × Int) : (condP (Decidable.decide (IntKind.i64.wrap (x.snd - (↑x.fst.length : Int)) < (0 : Int))) ((-1 : Int) = Pl.lim (x.snd - (↑(x.fst.length + Pl.costTrs Pl.costPF x.fst) : Int)))
 ((Exists fun (x_1 : Nat) =>
 (x_1 ≤ x.fst.length ∧ (0 : Int) ≤ x.snd - (↑x.fst.length : Int) - (↑(Pl.costTrs Pl.costPF (List.take x_1 x.fst)) : Int)) ∧
 (Is (forms x.fst) (forms x.fst) ∧
 IntKind.i64.wrap (x.snd - (↑x.fst.length : Int)) = x.snd - (↑x.fst.length : Int) - (↑(Pl.costTrs Pl.costPF (List.take x_1 x.fst)) : Int) ∧ (0 : Int) = (↑x_1 : Int) ∧ True) ∧
 True) ∧
 ∀ (x_1 : Nat),
 x_1 ≤ x.fst.length ∧ (0 : Int) ≤ x.snd - (↑x.fst.length : Int) - (↑(Pl.costTrs Pl.costPF (List.take x_1 x.fst)) : Int) →
 condP (Decidable.decide ((↑x_1 : Int) < (↑x.fst.length : Int)))
 (((0 : Int) ≤ (↑x_1 : Int) ∧ (↑x_1 : Int) < (↑x.fst.length : Int)) ∧
 x_1 < x.fst.length ∧
 Exists fun (x_2 : Pl.FP × Int) =>
 (((Pl.Tree.val (x.fst.getD x_1 Pl.dF)).fst = x_2.fst.fst.fst ∧
 (Pl.Tree.val (x.fst.getD x_1 Pl.dF)).snd.fst.fst = x_2.fst.fst.snd.fst.fst ∧
 (Pl.Tree.val (x.fst.getD x_1 Pl.dF)).snd.fst.snd.fst.fst = x_2.fst.fst.snd.fst.snd.fst.fst ∧
 Is (terms (Pl.Tree.val (x.fst.getD x_1 Pl.dF)).snd.fst.snd.fst.snd) (terms x_2.fst.fst.snd.fst.snd.fst.snd) ∧
 (Pl.Tree.val (x.fst.getD x_1 Pl.dF)).snd.fst.snd.snd.fst.fst = x_2.fst.fst.snd.fst.snd.snd.fst.fst ∧
 Is (terms (Pl.Tree.val (x.fst.getD x_1 Pl.dF)).snd.fst.snd.snd.fst.snd) (terms x_2.fst.fst.snd.fst.snd.snd.fst.snd) ∧
 Is (terms (Pl.Tree.val (x.fst.getD x_1 Pl.dF)).snd.fst.snd.snd.snd.fst) (terms x_2.fst.fst.snd.fst.snd.snd.snd.fst) ∧
 Is (ints (Pl.Tree.val (x.fst.getD x_1 Pl.dF)).snd.fst.snd.snd.snd.snd.fst) (ints x_2.fst.fst.snd.fst.snd.snd.snd.snd.fst) ∧
 (Pl.Tree.val (x.fst.getD x_1 Pl.dF)).snd.fst.snd.snd.snd.snd.snd.fst = x_2.fst.fst.snd.fst.snd.snd.snd.snd.snd.fst ∧
 (Pl.Tree.val (x.fst.getD x_1 Pl.dF)).snd.fst.snd.snd.snd.snd.snd.snd = x_2.fst.fst.snd.fst.snd.snd.snd.snd.snd.snd ∧
 (Pl.Tree.val (x.fst.getD x_1 Pl.dF)).snd.snd = x_2.fst.fst.snd.snd ∧ Is (kidsF (x.fst.getD x_1 Pl.dF)) (forms x_2.fst.snd) ∧ True) ∧
 x.snd - (↑x.fst.length : Int) - (↑(Pl.costTrs Pl.costPF (List.take x_1 x.fst)) : Int) = x_2.snd ∧ True) ∧
 ((MlF (Pl.Tree.mk x_2.fst.fst x_2.fst.snd) ∧ Fu x_2.snd) ∧ Pl.manyL x_2.fst.snd < n) ∧
 condP (Decidable.decide (Pl.lim (x_2.snd - (↑(Pl.costTr Pl.costPF (Pl.Tree.mk x_2.fst.fst x_2.fst.snd)) : Int)) < (0 : Int)))
 ((-1 : Int) = Pl.lim (x.snd - (↑(x.fst.length + Pl.costTrs Pl.costPF x.fst) : Int)))
 (Exists fun (x' : Nat) =>
 (x' ≤ x.fst.length ∧ (0 : Int) ≤ x.snd - (↑x.fst.length : Int) - (↑(Pl.costTrs Pl.costPF (List.take x' x.fst)) : Int)) ∧
 x.fst.length - x' < x.fst.length - x_1 ∧
 (Is (forms x.fst) (forms x.fst) ∧
 Pl.lim (x_2.snd - (↑(Pl.costTr Pl.costPF (Pl.Tree.mk x_2.fst.fst x_2.fst.snd)) : Int)) =
 x.snd - (↑x.fst.length : Int) - (↑(Pl.costTrs Pl.costPF (List.take x' x.fst)) : Int) ∧
 IntKind.i64.wrap ((↑x_1 : Int) + (1 : Int)) = (↑x' : Int) ∧ True) ∧
 True))
 (x.snd - (↑x.fst.length : Int) - (↑(Pl.costTrs Pl.costPF (List.take x_1 x.fst)) : Int) = Pl.lim (x.snd - (↑(x.fst.length + Pl.costTrs Pl.costPF x.fst) : Int))))) = Goal Try.prog [(K_szForm_ n)] (A_szFormS x.1 x.2) (K_szFormS_ (n + 1)).1 (K_szFormS_ (n + 1)).2 (x) := by kernel_rfl

theorem vc_toForm_ (n : Nat) (x : Pl.FP) : (Exists fun (x_1 : Pl.Ltr) =>
 ((x.fst.snd.fst.fst = x_1.fst.fst ∧
 x.fst.snd.fst.snd.fst.fst = x_1.fst.snd.fst.fst ∧
 Is (terms x.fst.snd.fst.snd.fst.snd) (terms x_1.fst.snd.fst.snd) ∧
 x.fst.snd.fst.snd.snd.fst.fst = x_1.fst.snd.snd.fst.fst ∧
 Is (terms x.fst.snd.fst.snd.snd.fst.snd) (terms x_1.fst.snd.snd.fst.snd) ∧
 Is (terms x.fst.snd.fst.snd.snd.snd.fst) (terms x_1.fst.snd.snd.snd.fst) ∧
 Is (ints x.fst.snd.fst.snd.snd.snd.snd.fst) (ints x_1.fst.snd.snd.snd.snd.fst) ∧
 x.fst.snd.fst.snd.snd.snd.snd.snd.fst = x_1.fst.snd.snd.snd.snd.snd.fst ∧
 x.fst.snd.fst.snd.snd.snd.snd.snd.snd = x_1.fst.snd.snd.snd.snd.snd.snd ∧ x.fst.snd.snd = x_1.snd ∧ True) ∧
 True) ∧
 SmA x_1.fst ∧
 Exists fun (x_2 : List Pl.Frm) =>
 (Is (forms x.snd) (forms x_2) ∧ True) ∧
 (SmTrs Pl.costPF x_2 ∧ Pl.manyL x_2 < n) ∧
 x.fst.fst = x.fst.fst ∧
 x_1.fst.fst = x.fst.snd.fst.fst ∧
 x_1.fst.snd.fst.fst = x.fst.snd.fst.snd.fst.fst ∧
 Is (terms x_1.fst.snd.fst.snd) (terms x.fst.snd.fst.snd.fst.snd) ∧
 x_1.fst.snd.snd.fst.fst = x.fst.snd.fst.snd.snd.fst.fst ∧
 Is (terms x_1.fst.snd.snd.fst.snd) (terms x.fst.snd.fst.snd.snd.fst.snd) ∧
 Is (terms x_1.fst.snd.snd.snd.fst) (terms x.fst.snd.fst.snd.snd.snd.fst) ∧
 Is (ints x_1.fst.snd.snd.snd.snd.fst) (ints x.fst.snd.fst.snd.snd.snd.snd.fst) ∧
 x_1.fst.snd.snd.snd.snd.snd.fst = x.fst.snd.fst.snd.snd.snd.snd.snd.fst ∧
 x_1.fst.snd.snd.snd.snd.snd.snd = x.fst.snd.fst.snd.snd.snd.snd.snd.snd ∧ x_1.snd = x.fst.snd.snd ∧ Is (forms x_2) (forms x.snd) ∧ True) = Goal Try.prog [K_toLit, (K_toFormS_ n)] ([]) (K_toForm_ n).1 (K_toForm_ n).2 (x) := by kernel_rfl

theorem vc_toFormS_ (n : Nat) (x : List Pl.Frm) : ((0 : Int) ≤ (↑x.length : Int) ∧
 (↑x.length : Int) ≤ (↑x.length : Int) ∧
 (↑(192 : Nat) : Int) * (↑x.length : Int) ≤ (140737488355328 : Int) ∧
 (↑x.length : Int) ≤ (140737488355328 : Int) ∧
 (Exists fun (x_1 : Nat × List Pl.Frm) =>
 (x_1.fst ≤ x.length ∧ x_1.snd.length = x.length ∧ List.take x_1.fst x_1.snd = List.take x_1.fst x) ∧
 (Is (forms x) (forms x) ∧ ((0 : Nat) = (0 : Nat) ∧ x.length = x_1.snd.length) ∧ (0 : Int) = (↑x_1.fst : Int) ∧ True) ∧
 IsO
 (AObj.arr x.length (12 : Nat) fun (x j : Nat) =>
 [i64 (0 : Int), i64 (0 : Int), st { data := #[] }, AV.lit (0 : Nat) (1 : Nat) fun (x x_2 : Nat) => AV.any, st { data := #[] },
 AV.lit (0 : Nat) (1 : Nat) fun (x x_2 : Nat) => AV.any, AV.lit (0 : Nat) (1 : Nat) fun (x x_2 : Nat) => AV.any,
 AV.lit (0 : Nat) (1 : Nat) fun (x x_2 : Nat) => AV.any, i64 (0 : Int), bl Bool.false, bl Bool.false,
 AV.lit (0 : Nat) (1 : Nat) fun (x x_2 : Nat) => AV.any].getD
 j AV.any)
 (arF x_1.snd) ∧
 True) ∧
 ∀ (x_1 : Nat × List Pl.Frm),
 x_1.fst ≤ x.length ∧ x_1.snd.length = x.length ∧ List.take x_1.fst x_1.snd = List.take x_1.fst x →
 condP (Decidable.decide ((↑x_1.fst : Int) < (↑x.length : Int)))
 (((0 : Int) ≤ (↑x_1.fst : Int) ∧ (↑x_1.fst : Int) < (↑x.length : Int)) ∧
 x_1.fst < x.length ∧
 Exists fun (x_2 : Pl.FP) =>
 (((Pl.Tree.val (x.getD x_1.fst Pl.dF)).fst = x_2.fst.fst ∧
 (Pl.Tree.val (x.getD x_1.fst Pl.dF)).snd.fst.fst = x_2.fst.snd.fst.fst ∧
 (Pl.Tree.val (x.getD x_1.fst Pl.dF)).snd.fst.snd.fst.fst = x_2.fst.snd.fst.snd.fst.fst ∧
 Is (terms (Pl.Tree.val (x.getD x_1.fst Pl.dF)).snd.fst.snd.fst.snd) (terms x_2.fst.snd.fst.snd.fst.snd) ∧
 (Pl.Tree.val (x.getD x_1.fst Pl.dF)).snd.fst.snd.snd.fst.fst = x_2.fst.snd.fst.snd.snd.fst.fst ∧
 Is (terms (Pl.Tree.val (x.getD x_1.fst Pl.dF)).snd.fst.snd.snd.fst.snd) (terms x_2.fst.snd.fst.snd.snd.fst.snd) ∧
 Is (terms (Pl.Tree.val (x.getD x_1.fst Pl.dF)).snd.fst.snd.snd.snd.fst) (terms x_2.fst.snd.fst.snd.snd.snd.fst) ∧
 Is (ints (Pl.Tree.val (x.getD x_1.fst Pl.dF)).snd.fst.snd.snd.snd.snd.fst) (ints x_2.fst.snd.fst.snd.snd.snd.snd.fst) ∧
 (Pl.Tree.val (x.getD x_1.fst Pl.dF)).snd.fst.snd.snd.snd.snd.snd.fst = x_2.fst.snd.fst.snd.snd.snd.snd.snd.fst ∧
 (Pl.Tree.val (x.getD x_1.fst Pl.dF)).snd.fst.snd.snd.snd.snd.snd.snd = x_2.fst.snd.fst.snd.snd.snd.snd.snd.snd ∧
 (Pl.Tree.val (x.getD x_1.fst Pl.dF)).snd.snd = x_2.fst.snd.snd ∧ Is (kidsF (x.getD x_1.fst Pl.dF)) (forms x_2.snd) ∧ True) ∧
 True) ∧
 (SmTr Pl.costPF (Pl.Tree.mk x_2.fst x_2.snd) ∧ Pl.manyL x_2.snd < n) ∧
 ((0 : Int) ≤ (↑x_1.fst : Int) ∧ (↑x_1.fst : Int) < (↑x_1.snd.length : Int)) ∧
 x_1.fst < x_1.snd.length ∧
 Exists fun (x' : Nat × List Pl.Frm) =>
 (x'.fst ≤ x.length ∧ x'.snd.length = x.length ∧ List.take x'.fst x'.snd = List.take x'.fst x) ∧
 x.length - x'.fst < x.length - x_1.fst ∧
 (Is (forms x) (forms x) ∧
 ((0 : Nat) = (0 : Nat) ∧ x_1.snd.length = x'.snd.length) ∧ IntKind.i64.wrap ((↑x_1.fst : Int) + (1 : Int)) = (↑x'.fst : Int) ∧ True) ∧
 IsO
 (AObj.arr x_1.snd.length (12 : Nat)
 (storeC (cF x_1.snd) x_1.fst (0 : Nat)
 [i64 x_2.fst.fst, i64 x_2.fst.snd.fst.fst, st x_2.fst.snd.fst.snd.fst.fst, terms x_2.fst.snd.fst.snd.fst.snd,
 st x_2.fst.snd.fst.snd.snd.fst.fst, terms x_2.fst.snd.fst.snd.snd.fst.snd, terms x_2.fst.snd.fst.snd.snd.snd.fst,
 ints x_2.fst.snd.fst.snd.snd.snd.snd.fst, i64 x_2.fst.snd.fst.snd.snd.snd.snd.snd.fst, bl x_2.fst.snd.fst.snd.snd.snd.snd.snd.snd,
 bl x_2.fst.snd.snd, forms x_2.snd]))
 (arF x'.snd) ∧
 True)
 ((0 : Nat) + x_1.snd.length ≤ x_1.snd.length ∧ Is (forms x_1.snd) (forms x))) = Goal Try.prog [(K_toForm_ n)] (A_toFormS x) (K_toFormS_ (n + 1)).1 (K_toFormS_ (n + 1)).2 (x) := by kernel_rfl

theorem vc_eqForm_ (n : Nat) (x : Pl.FP × Pl.FP) : (condP (x.fst.fst.fst != x.snd.fst.fst) (Bool.false = Decidable.decide (x.fst = x.snd))
 (Exists fun (x_1 : Pl.Ltr × Pl.Ltr) =>
 ((x.fst.fst.snd.fst.fst = x_1.fst.fst.fst ∧
 x.fst.fst.snd.fst.snd.fst.fst = x_1.fst.fst.snd.fst.fst ∧
 Is (terms x.fst.fst.snd.fst.snd.fst.snd) (terms x_1.fst.fst.snd.fst.snd) ∧
 x.fst.fst.snd.fst.snd.snd.fst.fst = x_1.fst.fst.snd.snd.fst.fst ∧
 Is (terms x.fst.fst.snd.fst.snd.snd.fst.snd) (terms x_1.fst.fst.snd.snd.fst.snd) ∧
 Is (terms x.fst.fst.snd.fst.snd.snd.snd.fst) (terms x_1.fst.fst.snd.snd.snd.fst) ∧
 Is (ints x.fst.fst.snd.fst.snd.snd.snd.snd.fst) (ints x_1.fst.fst.snd.snd.snd.snd.fst) ∧
 x.fst.fst.snd.fst.snd.snd.snd.snd.snd.fst = x_1.fst.fst.snd.snd.snd.snd.snd.fst ∧
 x.fst.fst.snd.fst.snd.snd.snd.snd.snd.snd = x_1.fst.fst.snd.snd.snd.snd.snd.snd ∧ x.fst.fst.snd.snd = x_1.fst.snd ∧ True) ∧
 (x.snd.fst.snd.fst.fst = x_1.snd.fst.fst ∧
 x.snd.fst.snd.fst.snd.fst.fst = x_1.snd.fst.snd.fst.fst ∧
 Is (terms x.snd.fst.snd.fst.snd.fst.snd) (terms x_1.snd.fst.snd.fst.snd) ∧
 x.snd.fst.snd.fst.snd.snd.fst.fst = x_1.snd.fst.snd.snd.fst.fst ∧
 Is (terms x.snd.fst.snd.fst.snd.snd.fst.snd) (terms x_1.snd.fst.snd.snd.fst.snd) ∧
 Is (terms x.snd.fst.snd.fst.snd.snd.snd.fst) (terms x_1.snd.fst.snd.snd.snd.fst) ∧
 Is (ints x.snd.fst.snd.fst.snd.snd.snd.snd.fst) (ints x_1.snd.fst.snd.snd.snd.snd.fst) ∧
 x.snd.fst.snd.fst.snd.snd.snd.snd.snd.fst = x_1.snd.fst.snd.snd.snd.snd.snd.fst ∧
 x.snd.fst.snd.fst.snd.snd.snd.snd.snd.snd = x_1.snd.fst.snd.snd.snd.snd.snd.snd ∧ x.snd.fst.snd.snd = x_1.snd.snd ∧ True) ∧
 True) ∧
 SmA x_1.fst.fst ∧
 condP (!Decidable.decide (x_1.fst = x_1.snd)) (Bool.false = Decidable.decide (x.fst = x.snd))
 (Exists fun (x_2 : List Pl.Frm × List Pl.Frm) =>
 (Is (forms x.fst.snd) (forms x_2.fst) ∧ Is (forms x.snd.snd) (forms x_2.snd) ∧ True) ∧
 (SmTrs Pl.costPF x_2.fst ∧ Pl.manyL x_2.fst < n) ∧
 condP (!Decidable.decide (x_2.fst = x_2.snd)) (Bool.false = Decidable.decide (x.fst = x.snd)) (Bool.true = Decidable.decide (x.fst = x.snd))))) = Goal Try.prog [K_eqLit, (K_eqFormS_ n)] ([]) (K_eqForm_ n).1 (K_eqForm_ n).2 (x) := by kernel_rfl

theorem vc_eqFormS_ (n : Nat) (x : List Pl.Frm × List Pl.Frm) : (condP ((↑x.fst.length : Int) != (↑x.snd.length : Int)) (Bool.false = Decidable.decide (x.fst = x.snd))
 ((Exists fun (x_1 : Nat) =>
 (x_1 ≤ x.fst.length ∧ x.fst.length = x.snd.length ∧ (x.fst = x.snd ↔ List.drop x_1 x.fst = List.drop x_1 x.snd)) ∧
 (Is (forms x.fst) (forms x.fst) ∧ Is (forms x.snd) (forms x.snd) ∧ (0 : Int) = (↑x_1 : Int) ∧ True) ∧ True) ∧
 ∀ (x_1 : Nat),
 x_1 ≤ x.fst.length ∧ x.fst.length = x.snd.length ∧ (x.fst = x.snd ↔ List.drop x_1 x.fst = List.drop x_1 x.snd) →
 condP (Decidable.decide ((↑x_1 : Int) < (↑x.fst.length : Int)))
 (((0 : Int) ≤ (↑x_1 : Int) ∧ (↑x_1 : Int) < (↑x.fst.length : Int)) ∧
 x_1 < x.fst.length ∧
 ((0 : Int) ≤ (↑x_1 : Int) ∧ (↑x_1 : Int) < (↑x.snd.length : Int)) ∧
 x_1 < x.snd.length ∧
 Exists fun (x_2 : Pl.FP × Pl.FP) =>
 (((Pl.Tree.val (x.fst.getD x_1 Pl.dF)).fst = x_2.fst.fst.fst ∧
 (Pl.Tree.val (x.fst.getD x_1 Pl.dF)).snd.fst.fst = x_2.fst.fst.snd.fst.fst ∧
 (Pl.Tree.val (x.fst.getD x_1 Pl.dF)).snd.fst.snd.fst.fst = x_2.fst.fst.snd.fst.snd.fst.fst ∧
 Is (terms (Pl.Tree.val (x.fst.getD x_1 Pl.dF)).snd.fst.snd.fst.snd) (terms x_2.fst.fst.snd.fst.snd.fst.snd) ∧
 (Pl.Tree.val (x.fst.getD x_1 Pl.dF)).snd.fst.snd.snd.fst.fst = x_2.fst.fst.snd.fst.snd.snd.fst.fst ∧
 Is (terms (Pl.Tree.val (x.fst.getD x_1 Pl.dF)).snd.fst.snd.snd.fst.snd) (terms x_2.fst.fst.snd.fst.snd.snd.fst.snd) ∧
 Is (terms (Pl.Tree.val (x.fst.getD x_1 Pl.dF)).snd.fst.snd.snd.snd.fst) (terms x_2.fst.fst.snd.fst.snd.snd.snd.fst) ∧
 Is (ints (Pl.Tree.val (x.fst.getD x_1 Pl.dF)).snd.fst.snd.snd.snd.snd.fst) (ints x_2.fst.fst.snd.fst.snd.snd.snd.snd.fst) ∧
 (Pl.Tree.val (x.fst.getD x_1 Pl.dF)).snd.fst.snd.snd.snd.snd.snd.fst = x_2.fst.fst.snd.fst.snd.snd.snd.snd.snd.fst ∧
 (Pl.Tree.val (x.fst.getD x_1 Pl.dF)).snd.fst.snd.snd.snd.snd.snd.snd = x_2.fst.fst.snd.fst.snd.snd.snd.snd.snd.snd ∧
 (Pl.Tree.val (x.fst.getD x_1 Pl.dF)).snd.snd = x_2.fst.fst.snd.snd ∧ Is (kidsF (x.fst.getD x_1 Pl.dF)) (forms x_2.fst.snd) ∧ True) ∧
 ((Pl.Tree.val (x.snd.getD x_1 Pl.dF)).fst = x_2.snd.fst.fst ∧
 (Pl.Tree.val (x.snd.getD x_1 Pl.dF)).snd.fst.fst = x_2.snd.fst.snd.fst.fst ∧
 (Pl.Tree.val (x.snd.getD x_1 Pl.dF)).snd.fst.snd.fst.fst = x_2.snd.fst.snd.fst.snd.fst.fst ∧
 Is (terms (Pl.Tree.val (x.snd.getD x_1 Pl.dF)).snd.fst.snd.fst.snd) (terms x_2.snd.fst.snd.fst.snd.fst.snd) ∧
 (Pl.Tree.val (x.snd.getD x_1 Pl.dF)).snd.fst.snd.snd.fst.fst = x_2.snd.fst.snd.fst.snd.snd.fst.fst ∧
 Is (terms (Pl.Tree.val (x.snd.getD x_1 Pl.dF)).snd.fst.snd.snd.fst.snd) (terms x_2.snd.fst.snd.fst.snd.snd.fst.snd) ∧
 Is (terms (Pl.Tree.val (x.snd.getD x_1 Pl.dF)).snd.fst.snd.snd.snd.fst) (terms x_2.snd.fst.snd.fst.snd.snd.snd.fst) ∧
 Is (ints (Pl.Tree.val (x.snd.getD x_1 Pl.dF)).snd.fst.snd.snd.snd.snd.fst) (ints x_2.snd.fst.snd.fst.snd.snd.snd.snd.fst) ∧
 (Pl.Tree.val (x.snd.getD x_1 Pl.dF)).snd.fst.snd.snd.snd.snd.snd.fst = x_2.snd.fst.snd.fst.snd.snd.snd.snd.snd.fst ∧
 (Pl.Tree.val (x.snd.getD x_1 Pl.dF)).snd.fst.snd.snd.snd.snd.snd.snd = x_2.snd.fst.snd.fst.snd.snd.snd.snd.snd.snd ∧
 (Pl.Tree.val (x.snd.getD x_1 Pl.dF)).snd.snd = x_2.snd.fst.snd.snd ∧ Is (kidsF (x.snd.getD x_1 Pl.dF)) (forms x_2.snd.snd) ∧ True) ∧
 True) ∧
 (SmTr Pl.costPF (Pl.Tree.mk x_2.fst.fst x_2.fst.snd) ∧ Pl.manyL x_2.fst.snd < n) ∧
 condP (!Decidable.decide (x_2.fst = x_2.snd)) (Bool.false = Decidable.decide (x.fst = x.snd))
 (Exists fun (x' : Nat) =>
 (x' ≤ x.fst.length ∧ x.fst.length = x.snd.length ∧ (x.fst = x.snd ↔ List.drop x' x.fst = List.drop x' x.snd)) ∧
 x.fst.length - x' < x.fst.length - x_1 ∧
 (Is (forms x.fst) (forms x.fst) ∧ Is (forms x.snd) (forms x.snd) ∧ IntKind.i64.wrap ((↑x_1 : Int) + (1 : Int)) = (↑x' : Int) ∧ True) ∧ True))
 (Bool.true = Decidable.decide (x.fst = x.snd)))) = Goal Try.prog [(K_eqForm_ n)] (A_eqFormS x.1 x.2) (K_eqFormS_ (n + 1)).1 (K_eqFormS_ (n + 1)).2 (x) := by kernel_rfl

theorem vc_sFormSame_ (n : Nat) (x : Pl.FP × Pl.FP) : (condP (x.fst.fst.fst != x.snd.fst.fst) (Bool.false = Decidable.decide (x.fst = x.snd))
 (condP (!x.fst.fst.snd.snd == x.snd.fst.snd.snd) (Bool.false = Decidable.decide (x.fst = x.snd))
 (Exists fun (x_1 : Pl.Atm × Pl.Atm) =>
 ((x.fst.fst.snd.fst.fst = x_1.fst.fst ∧
 x.fst.fst.snd.fst.snd.fst.fst = x_1.fst.snd.fst.fst ∧
 Is (terms x.fst.fst.snd.fst.snd.fst.snd) (terms x_1.fst.snd.fst.snd) ∧
 x.fst.fst.snd.fst.snd.snd.fst.fst = x_1.fst.snd.snd.fst.fst ∧
 Is (terms x.fst.fst.snd.fst.snd.snd.fst.snd) (terms x_1.fst.snd.snd.fst.snd) ∧
 Is (terms x.fst.fst.snd.fst.snd.snd.snd.fst) (terms x_1.fst.snd.snd.snd.fst) ∧
 Is (ints x.fst.fst.snd.fst.snd.snd.snd.snd.fst) (ints x_1.fst.snd.snd.snd.snd.fst) ∧
 x.fst.fst.snd.fst.snd.snd.snd.snd.snd.fst = x_1.fst.snd.snd.snd.snd.snd.fst ∧ x.fst.fst.snd.fst.snd.snd.snd.snd.snd.snd = x_1.fst.snd.snd.snd.snd.snd.snd ∧ True) ∧
 (x.snd.fst.snd.fst.fst = x_1.snd.fst ∧
 x.snd.fst.snd.fst.snd.fst.fst = x_1.snd.snd.fst.fst ∧
 Is (terms x.snd.fst.snd.fst.snd.fst.snd) (terms x_1.snd.snd.fst.snd) ∧
 x.snd.fst.snd.fst.snd.snd.fst.fst = x_1.snd.snd.snd.fst.fst ∧
 Is (terms x.snd.fst.snd.fst.snd.snd.fst.snd) (terms x_1.snd.snd.snd.fst.snd) ∧
 Is (terms x.snd.fst.snd.fst.snd.snd.snd.fst) (terms x_1.snd.snd.snd.snd.fst) ∧
 Is (ints x.snd.fst.snd.fst.snd.snd.snd.snd.fst) (ints x_1.snd.snd.snd.snd.snd.fst) ∧
 x.snd.fst.snd.fst.snd.snd.snd.snd.snd.fst = x_1.snd.snd.snd.snd.snd.snd.fst ∧ x.snd.fst.snd.fst.snd.snd.snd.snd.snd.snd = x_1.snd.snd.snd.snd.snd.snd.snd ∧ True) ∧
 True) ∧
 SmA x_1.fst ∧
 condP (!Decidable.decide (x_1.fst = x_1.snd)) (Bool.false = Decidable.decide (x.fst = x.snd))
 (condP ((↑x.fst.snd.length : Int) != (↑x.snd.snd.length : Int)) (Bool.false = Decidable.decide (x.fst = x.snd))
 ((Exists fun (x_2 : Nat) =>
 (x_2 ≤ x.fst.snd.length ∧ x.fst.snd.length = x.snd.snd.length ∧ x.fst.fst = x.snd.fst ∧ (x.fst.snd = x.snd.snd ↔ List.drop x_2 x.fst.snd = List.drop x_2 x.snd.snd)) ∧
 ((0 : Nat) = (0 : Nat) ∧ (0 : Nat) = (0 : Nat) ∧ (0 : Int) = (↑x_2 : Int) ∧ True) ∧
 (x.fst.fst.fst = x.fst.fst.fst ∧
 x.fst.fst.snd.fst.fst = x.fst.fst.snd.fst.fst ∧
 x.fst.fst.snd.fst.snd.fst.fst = x.fst.fst.snd.fst.snd.fst.fst ∧
 Is (terms x.fst.fst.snd.fst.snd.fst.snd) (terms x.fst.fst.snd.fst.snd.fst.snd) ∧
 x.fst.fst.snd.fst.snd.snd.fst.fst = x.fst.fst.snd.fst.snd.snd.fst.fst ∧
 Is (terms x.fst.fst.snd.fst.snd.snd.fst.snd) (terms x.fst.fst.snd.fst.snd.snd.fst.snd) ∧
 Is (terms x.fst.fst.snd.fst.snd.snd.snd.fst) (terms x.fst.fst.snd.fst.snd.snd.snd.fst) ∧
 Is (ints x.fst.fst.snd.fst.snd.snd.snd.snd.fst) (ints x.fst.fst.snd.fst.snd.snd.snd.snd.fst) ∧
 x.fst.fst.snd.fst.snd.snd.snd.snd.snd.fst = x.fst.fst.snd.fst.snd.snd.snd.snd.snd.fst ∧
 x.fst.fst.snd.fst.snd.snd.snd.snd.snd.snd = x.fst.fst.snd.fst.snd.snd.snd.snd.snd.snd ∧
 x.fst.fst.snd.snd = x.fst.fst.snd.snd ∧ Is (forms x.fst.snd) (forms x.fst.snd) ∧ True) ∧
 (x.snd.fst.fst = x.snd.fst.fst ∧
 x.snd.fst.snd.fst.fst = x.snd.fst.snd.fst.fst ∧
 x.snd.fst.snd.fst.snd.fst.fst = x.snd.fst.snd.fst.snd.fst.fst ∧
 Is (terms x.snd.fst.snd.fst.snd.fst.snd) (terms x.snd.fst.snd.fst.snd.fst.snd) ∧
 x.snd.fst.snd.fst.snd.snd.fst.fst = x.snd.fst.snd.fst.snd.snd.fst.fst ∧
 Is (terms x.snd.fst.snd.fst.snd.snd.fst.snd) (terms x.snd.fst.snd.fst.snd.snd.fst.snd) ∧
 Is (terms x.snd.fst.snd.fst.snd.snd.snd.fst) (terms x.snd.fst.snd.fst.snd.snd.snd.fst) ∧
 Is (ints x.snd.fst.snd.fst.snd.snd.snd.snd.fst) (ints x.snd.fst.snd.fst.snd.snd.snd.snd.fst) ∧
 x.snd.fst.snd.fst.snd.snd.snd.snd.snd.fst = x.snd.fst.snd.fst.snd.snd.snd.snd.snd.fst ∧
 x.snd.fst.snd.fst.snd.snd.snd.snd.snd.snd = x.snd.fst.snd.fst.snd.snd.snd.snd.snd.snd ∧
 x.snd.fst.snd.snd = x.snd.fst.snd.snd ∧ Is (forms x.snd.snd) (forms x.snd.snd) ∧ True) ∧
 True) ∧
 ∀ (x_2 : Nat),
 x_2 ≤ x.fst.snd.length ∧ x.fst.snd.length = x.snd.snd.length ∧ x.fst.fst = x.snd.fst ∧ (x.fst.snd = x.snd.snd ↔ List.drop x_2 x.fst.snd = List.drop x_2 x.snd.snd) →
 condP (Decidable.decide ((↑x_2 : Int) < (↑x.fst.snd.length : Int)))
 (((0 : Int) ≤ (↑x_2 : Int) ∧ (↑x_2 : Int) < (↑x.fst.snd.length : Int)) ∧
 x_2 < x.fst.snd.length ∧
 ((0 : Int) ≤ (↑x_2 : Int) ∧ (↑x_2 : Int) < (↑x.snd.snd.length : Int)) ∧
 x_2 < x.snd.snd.length ∧
 Exists fun (x_3 : Pl.FP × Pl.FP) =>
 (((Pl.Tree.val (x.fst.snd.getD x_2 Pl.dF)).fst = x_3.fst.fst.fst ∧
 (Pl.Tree.val (x.fst.snd.getD x_2 Pl.dF)).snd.fst.fst = x_3.fst.fst.snd.fst.fst ∧
 (Pl.Tree.val (x.fst.snd.getD x_2 Pl.dF)).snd.fst.snd.fst.fst = x_3.fst.fst.snd.fst.snd.fst.fst ∧
 Is (terms (Pl.Tree.val (x.fst.snd.getD x_2 Pl.dF)).snd.fst.snd.fst.snd) (terms x_3.fst.fst.snd.fst.snd.fst.snd) ∧
 (Pl.Tree.val (x.fst.snd.getD x_2 Pl.dF)).snd.fst.snd.snd.fst.fst = x_3.fst.fst.snd.fst.snd.snd.fst.fst ∧
 Is (terms (Pl.Tree.val (x.fst.snd.getD x_2 Pl.dF)).snd.fst.snd.snd.fst.snd) (terms x_3.fst.fst.snd.fst.snd.snd.fst.snd) ∧
 Is (terms (Pl.Tree.val (x.fst.snd.getD x_2 Pl.dF)).snd.fst.snd.snd.snd.fst) (terms x_3.fst.fst.snd.fst.snd.snd.snd.fst) ∧
 Is (ints (Pl.Tree.val (x.fst.snd.getD x_2 Pl.dF)).snd.fst.snd.snd.snd.snd.fst) (ints x_3.fst.fst.snd.fst.snd.snd.snd.snd.fst) ∧
 (Pl.Tree.val (x.fst.snd.getD x_2 Pl.dF)).snd.fst.snd.snd.snd.snd.snd.fst = x_3.fst.fst.snd.fst.snd.snd.snd.snd.snd.fst ∧
 (Pl.Tree.val (x.fst.snd.getD x_2 Pl.dF)).snd.fst.snd.snd.snd.snd.snd.snd = x_3.fst.fst.snd.fst.snd.snd.snd.snd.snd.snd ∧
 (Pl.Tree.val (x.fst.snd.getD x_2 Pl.dF)).snd.snd = x_3.fst.fst.snd.snd ∧
 Is (kidsF (x.fst.snd.getD x_2 Pl.dF)) (forms x_3.fst.snd) ∧ True) ∧
 ((Pl.Tree.val (x.snd.snd.getD x_2 Pl.dF)).fst = x_3.snd.fst.fst ∧
 (Pl.Tree.val (x.snd.snd.getD x_2 Pl.dF)).snd.fst.fst = x_3.snd.fst.snd.fst.fst ∧
 (Pl.Tree.val (x.snd.snd.getD x_2 Pl.dF)).snd.fst.snd.fst.fst = x_3.snd.fst.snd.fst.snd.fst.fst ∧
 Is (terms (Pl.Tree.val (x.snd.snd.getD x_2 Pl.dF)).snd.fst.snd.fst.snd) (terms x_3.snd.fst.snd.fst.snd.fst.snd) ∧
 (Pl.Tree.val (x.snd.snd.getD x_2 Pl.dF)).snd.fst.snd.snd.fst.fst = x_3.snd.fst.snd.fst.snd.snd.fst.fst ∧
 Is (terms (Pl.Tree.val (x.snd.snd.getD x_2 Pl.dF)).snd.fst.snd.snd.fst.snd) (terms x_3.snd.fst.snd.fst.snd.snd.fst.snd) ∧
 Is (terms (Pl.Tree.val (x.snd.snd.getD x_2 Pl.dF)).snd.fst.snd.snd.snd.fst) (terms x_3.snd.fst.snd.fst.snd.snd.snd.fst) ∧
 Is (ints (Pl.Tree.val (x.snd.snd.getD x_2 Pl.dF)).snd.fst.snd.snd.snd.snd.fst) (ints x_3.snd.fst.snd.fst.snd.snd.snd.snd.fst) ∧
 (Pl.Tree.val (x.snd.snd.getD x_2 Pl.dF)).snd.fst.snd.snd.snd.snd.snd.fst = x_3.snd.fst.snd.fst.snd.snd.snd.snd.snd.fst ∧
 (Pl.Tree.val (x.snd.snd.getD x_2 Pl.dF)).snd.fst.snd.snd.snd.snd.snd.snd = x_3.snd.fst.snd.fst.snd.snd.snd.snd.snd.snd ∧
 (Pl.Tree.val (x.snd.snd.getD x_2 Pl.dF)).snd.snd = x_3.snd.fst.snd.snd ∧
 Is (kidsF (x.snd.snd.getD x_2 Pl.dF)) (forms x_3.snd.snd) ∧ True) ∧
 True) ∧
 (SmTr Pl.costPF (Pl.Tree.mk x_3.fst.fst x_3.fst.snd) ∧ Pl.manyL x_3.fst.snd < n) ∧
 condP (!Decidable.decide (x_3.fst = x_3.snd)) (Bool.false = Decidable.decide (x.fst = x.snd))
 (Exists fun (x' : Nat) =>
 (x' ≤ x.fst.snd.length ∧
 x.fst.snd.length = x.snd.snd.length ∧ x.fst.fst = x.snd.fst ∧ (x.fst.snd = x.snd.snd ↔ List.drop x' x.fst.snd = List.drop x' x.snd.snd)) ∧
 x.fst.snd.length - x' < x.fst.snd.length - x_2 ∧
 ((0 : Nat) = (0 : Nat) ∧ (0 : Nat) = (0 : Nat) ∧ IntKind.i64.wrap ((↑x_2 : Int) + (1 : Int)) = (↑x' : Int) ∧ True) ∧
 (x.fst.fst.fst = x.fst.fst.fst ∧
 x.fst.fst.snd.fst.fst = x.fst.fst.snd.fst.fst ∧
 x.fst.fst.snd.fst.snd.fst.fst = x.fst.fst.snd.fst.snd.fst.fst ∧
 Is (terms x.fst.fst.snd.fst.snd.fst.snd) (terms x.fst.fst.snd.fst.snd.fst.snd) ∧
 x.fst.fst.snd.fst.snd.snd.fst.fst = x.fst.fst.snd.fst.snd.snd.fst.fst ∧
 Is (terms x.fst.fst.snd.fst.snd.snd.fst.snd) (terms x.fst.fst.snd.fst.snd.snd.fst.snd) ∧
 Is (terms x.fst.fst.snd.fst.snd.snd.snd.fst) (terms x.fst.fst.snd.fst.snd.snd.snd.fst) ∧
 Is (ints x.fst.fst.snd.fst.snd.snd.snd.snd.fst) (ints x.fst.fst.snd.fst.snd.snd.snd.snd.fst) ∧
 x.fst.fst.snd.fst.snd.snd.snd.snd.snd.fst = x.fst.fst.snd.fst.snd.snd.snd.snd.snd.fst ∧
 x.fst.fst.snd.fst.snd.snd.snd.snd.snd.snd = x.fst.fst.snd.fst.snd.snd.snd.snd.snd.snd ∧
 x.fst.fst.snd.snd = x.fst.fst.snd.snd ∧ Is (forms x.fst.snd) (forms x.fst.snd) ∧ True) ∧
 (x.snd.fst.fst = x.snd.fst.fst ∧
 x.snd.fst.snd.fst.fst = x.snd.fst.snd.fst.fst ∧
 x.snd.fst.snd.fst.snd.fst.fst = x.snd.fst.snd.fst.snd.fst.fst ∧
 Is (terms x.snd.fst.snd.fst.snd.fst.snd) (terms x.snd.fst.snd.fst.snd.fst.snd) ∧
 x.snd.fst.snd.fst.snd.snd.fst.fst = x.snd.fst.snd.fst.snd.snd.fst.fst ∧
 Is (terms x.snd.fst.snd.fst.snd.snd.fst.snd) (terms x.snd.fst.snd.fst.snd.snd.fst.snd) ∧
 Is (terms x.snd.fst.snd.fst.snd.snd.snd.fst) (terms x.snd.fst.snd.fst.snd.snd.snd.fst) ∧
 Is (ints x.snd.fst.snd.fst.snd.snd.snd.snd.fst) (ints x.snd.fst.snd.fst.snd.snd.snd.snd.fst) ∧
 x.snd.fst.snd.fst.snd.snd.snd.snd.snd.fst = x.snd.fst.snd.fst.snd.snd.snd.snd.snd.fst ∧
 x.snd.fst.snd.fst.snd.snd.snd.snd.snd.snd = x.snd.fst.snd.fst.snd.snd.snd.snd.snd.snd ∧
 x.snd.fst.snd.snd = x.snd.fst.snd.snd ∧ Is (forms x.snd.snd) (forms x.snd.snd) ∧ True) ∧
 True))
 (Bool.true = Decidable.decide (x.fst = x.snd))))))) = Goal Try.prog [K_sAtomSame, (K_sFormSame_ n)] (A_sFormSame x.1 x.2) (K_sFormSame_ (n + 1)).1 (K_sFormSame_ (n + 1)).2 (x) := by kernel_rfl

theorem vc_iFormSame_ (n : Nat) (x : Pl.FP × Pl.FP) : (condP (x.fst.fst.fst == x.snd.fst.fst)
 (condP (x.fst.fst.snd.snd == x.snd.fst.snd.snd)
 (Exists fun (x_1 : Pl.Atm × Pl.Atm) =>
 ((x.fst.fst.snd.fst.fst = x_1.fst.fst ∧
 x.fst.fst.snd.fst.snd.fst.fst = x_1.fst.snd.fst.fst ∧
 Is (terms x.fst.fst.snd.fst.snd.fst.snd) (terms x_1.fst.snd.fst.snd) ∧
 x.fst.fst.snd.fst.snd.snd.fst.fst = x_1.fst.snd.snd.fst.fst ∧
 Is (terms x.fst.fst.snd.fst.snd.snd.fst.snd) (terms x_1.fst.snd.snd.fst.snd) ∧
 Is (terms x.fst.fst.snd.fst.snd.snd.snd.fst) (terms x_1.fst.snd.snd.snd.fst) ∧
 Is (ints x.fst.fst.snd.fst.snd.snd.snd.snd.fst) (ints x_1.fst.snd.snd.snd.snd.fst) ∧
 x.fst.fst.snd.fst.snd.snd.snd.snd.snd.fst = x_1.fst.snd.snd.snd.snd.snd.fst ∧ x.fst.fst.snd.fst.snd.snd.snd.snd.snd.snd = x_1.fst.snd.snd.snd.snd.snd.snd ∧ True) ∧
 (x.snd.fst.snd.fst.fst = x_1.snd.fst ∧
 x.snd.fst.snd.fst.snd.fst.fst = x_1.snd.snd.fst.fst ∧
 Is (terms x.snd.fst.snd.fst.snd.fst.snd) (terms x_1.snd.snd.fst.snd) ∧
 x.snd.fst.snd.fst.snd.snd.fst.fst = x_1.snd.snd.snd.fst.fst ∧
 Is (terms x.snd.fst.snd.fst.snd.snd.fst.snd) (terms x_1.snd.snd.snd.fst.snd) ∧
 Is (terms x.snd.fst.snd.fst.snd.snd.snd.fst) (terms x_1.snd.snd.snd.snd.fst) ∧
 Is (ints x.snd.fst.snd.fst.snd.snd.snd.snd.fst) (ints x_1.snd.snd.snd.snd.snd.fst) ∧
 x.snd.fst.snd.fst.snd.snd.snd.snd.snd.fst = x_1.snd.snd.snd.snd.snd.snd.fst ∧ x.snd.fst.snd.fst.snd.snd.snd.snd.snd.snd = x_1.snd.snd.snd.snd.snd.snd.snd ∧ True) ∧
 True) ∧
 SmA x_1.fst ∧
 condP (Decidable.decide (x_1.fst = x_1.snd))
 (Exists fun (x_2 : List Pl.Frm × List Pl.Frm) =>
 (Is (forms x.fst.snd) (forms x_2.fst) ∧ Is (forms x.snd.snd) (forms x_2.snd) ∧ True ∧ True) ∧
 (SmTrs Pl.costPF x_2.fst ∧ Pl.manyL x_2.fst < n) ∧ Decidable.decide (x_2.fst = x_2.snd) = Decidable.decide (x.fst = x.snd))
 (Bool.false = Decidable.decide (x.fst = x.snd)))
 (Bool.false = Decidable.decide (x.fst = x.snd)))
 (Bool.false = Decidable.decide (x.fst = x.snd))) = Goal Try.prog [K_iAtomSame, (K_EqualForm_ n)] ([]) (K_iFormSame_ n).1 (K_iFormSame_ n).2 (x) := by kernel_rfl

theorem vc_EqualForm_ (n : Nat) (x : List Pl.Frm × List Pl.Frm) : (condP ((↑x.fst.length : Int) != (↑x.snd.length : Int)) (Bool.false = Decidable.decide (x.fst = x.snd))
 ((Exists fun (x_1 : Nat) =>
 (x_1 ≤ x.fst.length ∧ x.fst.length = x.snd.length ∧ (x.fst = x.snd ↔ List.drop x_1 x.fst = List.drop x_1 x.snd)) ∧
 (Is (forms x.fst) (forms x.fst) ∧
 Is (forms x.snd) (forms x.snd) ∧ True ∧ Is (forms x.fst) (forms x.fst) ∧ (↑x.fst.length : Int) = (↑x.fst.length : Int) ∧ (0 : Int) = (↑x_1 : Int) ∧ True) ∧
 True) ∧
 ∀ (x_1 : Nat),
 x_1 ≤ x.fst.length ∧ x.fst.length = x.snd.length ∧ (x.fst = x.snd ↔ List.drop x_1 x.fst = List.drop x_1 x.snd) →
 condP (Decidable.decide ((↑x_1 : Int) < (↑x.fst.length : Int)))
 (((0 : Int) ≤ (↑x_1 : Int) ∧ (↑x_1 : Int) < (↑x.fst.length : Int)) ∧
 x_1 < x.fst.length ∧
 ((0 : Int) ≤ (↑x_1 : Int) ∧ (↑x_1 : Int) < (↑x.snd.length : Int)) ∧
 x_1 < x.snd.length ∧
 Exists fun (x_2 : Pl.FP × Pl.FP) =>
 (((Pl.Tree.val (x.fst.getD x_1 Pl.dF)).fst = x_2.fst.fst.fst ∧
 (Pl.Tree.val (x.fst.getD x_1 Pl.dF)).snd.fst.fst = x_2.fst.fst.snd.fst.fst ∧
 (Pl.Tree.val (x.fst.getD x_1 Pl.dF)).snd.fst.snd.fst.fst = x_2.fst.fst.snd.fst.snd.fst.fst ∧
 Is (terms (Pl.Tree.val (x.fst.getD x_1 Pl.dF)).snd.fst.snd.fst.snd) (terms x_2.fst.fst.snd.fst.snd.fst.snd) ∧
 (Pl.Tree.val (x.fst.getD x_1 Pl.dF)).snd.fst.snd.snd.fst.fst = x_2.fst.fst.snd.fst.snd.snd.fst.fst ∧
 Is (terms (Pl.Tree.val (x.fst.getD x_1 Pl.dF)).snd.fst.snd.snd.fst.snd) (terms x_2.fst.fst.snd.fst.snd.snd.fst.snd) ∧
 Is (terms (Pl.Tree.val (x.fst.getD x_1 Pl.dF)).snd.fst.snd.snd.snd.fst) (terms x_2.fst.fst.snd.fst.snd.snd.snd.fst) ∧
 Is (ints (Pl.Tree.val (x.fst.getD x_1 Pl.dF)).snd.fst.snd.snd.snd.snd.fst) (ints x_2.fst.fst.snd.fst.snd.snd.snd.snd.fst) ∧
 (Pl.Tree.val (x.fst.getD x_1 Pl.dF)).snd.fst.snd.snd.snd.snd.snd.fst = x_2.fst.fst.snd.fst.snd.snd.snd.snd.snd.fst ∧
 (Pl.Tree.val (x.fst.getD x_1 Pl.dF)).snd.fst.snd.snd.snd.snd.snd.snd = x_2.fst.fst.snd.fst.snd.snd.snd.snd.snd.snd ∧
 (Pl.Tree.val (x.fst.getD x_1 Pl.dF)).snd.snd = x_2.fst.fst.snd.snd ∧ Is (kidsF (x.fst.getD x_1 Pl.dF)) (forms x_2.fst.snd) ∧ True) ∧
 ((Pl.Tree.val (x.snd.getD x_1 Pl.dF)).fst = x_2.snd.fst.fst ∧
 (Pl.Tree.val (x.snd.getD x_1 Pl.dF)).snd.fst.fst = x_2.snd.fst.snd.fst.fst ∧
 (Pl.Tree.val (x.snd.getD x_1 Pl.dF)).snd.fst.snd.fst.fst = x_2.snd.fst.snd.fst.snd.fst.fst ∧
 Is (terms (Pl.Tree.val (x.snd.getD x_1 Pl.dF)).snd.fst.snd.fst.snd) (terms x_2.snd.fst.snd.fst.snd.fst.snd) ∧
 (Pl.Tree.val (x.snd.getD x_1 Pl.dF)).snd.fst.snd.snd.fst.fst = x_2.snd.fst.snd.fst.snd.snd.fst.fst ∧
 Is (terms (Pl.Tree.val (x.snd.getD x_1 Pl.dF)).snd.fst.snd.snd.fst.snd) (terms x_2.snd.fst.snd.fst.snd.snd.fst.snd) ∧
 Is (terms (Pl.Tree.val (x.snd.getD x_1 Pl.dF)).snd.fst.snd.snd.snd.fst) (terms x_2.snd.fst.snd.fst.snd.snd.snd.fst) ∧
 Is (ints (Pl.Tree.val (x.snd.getD x_1 Pl.dF)).snd.fst.snd.snd.snd.snd.fst) (ints x_2.snd.fst.snd.fst.snd.snd.snd.snd.fst) ∧
 (Pl.Tree.val (x.snd.getD x_1 Pl.dF)).snd.fst.snd.snd.snd.snd.snd.fst = x_2.snd.fst.snd.fst.snd.snd.snd.snd.snd.fst ∧
 (Pl.Tree.val (x.snd.getD x_1 Pl.dF)).snd.fst.snd.snd.snd.snd.snd.snd = x_2.snd.fst.snd.fst.snd.snd.snd.snd.snd.snd ∧
 (Pl.Tree.val (x.snd.getD x_1 Pl.dF)).snd.snd = x_2.snd.fst.snd.snd ∧ Is (kidsF (x.snd.getD x_1 Pl.dF)) (forms x_2.snd.snd) ∧ True) ∧
 True) ∧
 (SmTr Pl.costPF (Pl.Tree.mk x_2.fst.fst x_2.fst.snd) ∧ Pl.manyL x_2.fst.snd < n) ∧
 condP (!Decidable.decide (x_2.fst = x_2.snd)) (Bool.false = Decidable.decide (x.fst = x.snd))
 (Exists fun (x' : Nat) =>
 (x' ≤ x.fst.length ∧ x.fst.length = x.snd.length ∧ (x.fst = x.snd ↔ List.drop x' x.fst = List.drop x' x.snd)) ∧
 x.fst.length - x' < x.fst.length - x_1 ∧
 (Is (forms x.fst) (forms x.fst) ∧
 Is (forms x.snd) (forms x.snd) ∧
 True ∧
 Is (forms x.fst) (forms x.fst) ∧ (↑x.fst.length : Int) = (↑x.fst.length : Int) ∧ IntKind.i64.wrap ((↑x_1 : Int) + (1 : Int)) = (↑x' : Int) ∧ True) ∧
 True))
 (Bool.true = Decidable.decide (x.fst = x.snd)))) = Goal Try.prog [(K_iFormSame_ n)] (A_EqualForm x.1 x.2) (K_EqualForm_ (n + 1)).1 (K_EqualForm_ (n + 1)).2 (x) := by kernel_rfl

theorem vc_xFormSame (x : Pl.FP × Pl.FP) : (Exists fun (x_1 : Pl.FP × Int) =>
 ((x.fst.fst.fst = x_1.fst.fst.fst ∧
 x.fst.fst.snd.fst.fst = x_1.fst.fst.snd.fst.fst ∧
 x.fst.fst.snd.fst.snd.fst.fst = x_1.fst.fst.snd.fst.snd.fst.fst ∧
 Is (terms x.fst.fst.snd.fst.snd.fst.snd) (terms x_1.fst.fst.snd.fst.snd.fst.snd) ∧
 x.fst.fst.snd.fst.snd.snd.fst.fst = x_1.fst.fst.snd.fst.snd.snd.fst.fst ∧
 Is (terms x.fst.fst.snd.fst.snd.snd.fst.snd) (terms x_1.fst.fst.snd.fst.snd.snd.fst.snd) ∧
 Is (terms x.fst.fst.snd.fst.snd.snd.snd.fst) (terms x_1.fst.fst.snd.fst.snd.snd.snd.fst) ∧
 Is (ints x.fst.fst.snd.fst.snd.snd.snd.snd.fst) (ints x_1.fst.fst.snd.fst.snd.snd.snd.snd.fst) ∧
 x.fst.fst.snd.fst.snd.snd.snd.snd.snd.fst = x_1.fst.fst.snd.fst.snd.snd.snd.snd.snd.fst ∧
 x.fst.fst.snd.fst.snd.snd.snd.snd.snd.snd = x_1.fst.fst.snd.fst.snd.snd.snd.snd.snd.snd ∧
 x.fst.fst.snd.snd = x_1.fst.fst.snd.snd ∧ Is (forms x.fst.snd) (forms x_1.fst.snd) ∧ True) ∧
 (1048576 : Int) = x_1.snd ∧ True) ∧
 (MlF (Pl.Tree.mk x_1.fst.fst x_1.fst.snd) ∧ Fu x_1.snd) ∧
 condP (Decidable.decide (Pl.lim (x_1.snd - (↑(Pl.costTr Pl.costPF (Pl.Tree.mk x_1.fst.fst x_1.fst.snd)) : Int)) < (0 : Int))) (Bool.true = Bool.true)
 (Exists fun (x_2 : Pl.FP × Int) =>
 ((x.snd.fst.fst = x_2.fst.fst.fst ∧
 x.snd.fst.snd.fst.fst = x_2.fst.fst.snd.fst.fst ∧
 x.snd.fst.snd.fst.snd.fst.fst = x_2.fst.fst.snd.fst.snd.fst.fst ∧
 Is (terms x.snd.fst.snd.fst.snd.fst.snd) (terms x_2.fst.fst.snd.fst.snd.fst.snd) ∧
 x.snd.fst.snd.fst.snd.snd.fst.fst = x_2.fst.fst.snd.fst.snd.snd.fst.fst ∧
 Is (terms x.snd.fst.snd.fst.snd.snd.fst.snd) (terms x_2.fst.fst.snd.fst.snd.snd.fst.snd) ∧
 Is (terms x.snd.fst.snd.fst.snd.snd.snd.fst) (terms x_2.fst.fst.snd.fst.snd.snd.snd.fst) ∧
 Is (ints x.snd.fst.snd.fst.snd.snd.snd.snd.fst) (ints x_2.fst.fst.snd.fst.snd.snd.snd.snd.fst) ∧
 x.snd.fst.snd.fst.snd.snd.snd.snd.snd.fst = x_2.fst.fst.snd.fst.snd.snd.snd.snd.snd.fst ∧
 x.snd.fst.snd.fst.snd.snd.snd.snd.snd.snd = x_2.fst.fst.snd.fst.snd.snd.snd.snd.snd.snd ∧
 x.snd.fst.snd.snd = x_2.fst.fst.snd.snd ∧ Is (forms x.snd.snd) (forms x_2.fst.snd) ∧ True) ∧
 Pl.lim (x_1.snd - (↑(Pl.costTr Pl.costPF (Pl.Tree.mk x_1.fst.fst x_1.fst.snd)) : Int)) = x_2.snd ∧ True) ∧
 (MlF (Pl.Tree.mk x_2.fst.fst x_2.fst.snd) ∧ Fu x_2.snd) ∧
 condP (Decidable.decide (Pl.lim (x_2.snd - (↑(Pl.costTr Pl.costPF (Pl.Tree.mk x_2.fst.fst x_2.fst.snd)) : Int)) < (0 : Int))) (Bool.true = Bool.true)
 (Exists fun (x_3 : Pl.FP) =>
 ((x.fst.fst.fst = x_3.fst.fst ∧
 x.fst.fst.snd.fst.fst = x_3.fst.snd.fst.fst ∧
 x.fst.fst.snd.fst.snd.fst.fst = x_3.fst.snd.fst.snd.fst.fst ∧
 Is (terms x.fst.fst.snd.fst.snd.fst.snd) (terms x_3.fst.snd.fst.snd.fst.snd) ∧
 x.fst.fst.snd.fst.snd.snd.fst.fst = x_3.fst.snd.fst.snd.snd.fst.fst ∧
 Is (terms x.fst.fst.snd.fst.snd.snd.fst.snd) (terms x_3.fst.snd.fst.snd.snd.fst.snd) ∧
 Is (terms x.fst.fst.snd.fst.snd.snd.snd.fst) (terms x_3.fst.snd.fst.snd.snd.snd.fst) ∧
 Is (ints x.fst.fst.snd.fst.snd.snd.snd.snd.fst) (ints x_3.fst.snd.fst.snd.snd.snd.snd.fst) ∧
 x.fst.fst.snd.fst.snd.snd.snd.snd.snd.fst = x_3.fst.snd.fst.snd.snd.snd.snd.snd.fst ∧
 x.fst.fst.snd.fst.snd.snd.snd.snd.snd.snd = x_3.fst.snd.fst.snd.snd.snd.snd.snd.snd ∧
 x.fst.fst.snd.snd = x_3.fst.snd.snd ∧ Is (forms x.fst.snd) (forms x_3.snd) ∧ True) ∧
 True) ∧
 SmTr Pl.costPF (Pl.Tree.mk x_3.fst x_3.snd) ∧
 Exists fun (x_4 : Pl.FP) =>
 ((x.snd.fst.fst = x_4.fst.fst ∧
 x.snd.fst.snd.fst.fst = x_4.fst.snd.fst.fst ∧
 x.snd.fst.snd.fst.snd.fst.fst = x_4.fst.snd.fst.snd.fst.fst ∧
 Is (terms x.snd.fst.snd.fst.snd.fst.snd) (terms x_4.fst.snd.fst.snd.fst.snd) ∧
 x.snd.fst.snd.fst.snd.snd.fst.fst = x_4.fst.snd.fst.snd.snd.fst.fst ∧
 Is (terms x.snd.fst.snd.fst.snd.snd.fst.snd) (terms x_4.fst.snd.fst.snd.snd.fst.snd) ∧
 Is (terms x.snd.fst.snd.fst.snd.snd.snd.fst) (terms x_4.fst.snd.fst.snd.snd.snd.fst) ∧
 Is (ints x.snd.fst.snd.fst.snd.snd.snd.snd.fst) (ints x_4.fst.snd.fst.snd.snd.snd.snd.fst) ∧
 x.snd.fst.snd.fst.snd.snd.snd.snd.snd.fst = x_4.fst.snd.fst.snd.snd.snd.snd.snd.fst ∧
 x.snd.fst.snd.fst.snd.snd.snd.snd.snd.snd = x_4.fst.snd.fst.snd.snd.snd.snd.snd.snd ∧
 x.snd.fst.snd.snd = x_4.fst.snd.snd ∧ Is (forms x.snd.snd) (forms x_4.snd) ∧ True) ∧
 True) ∧
 SmTr Pl.costPF (Pl.Tree.mk x_4.fst x_4.snd) ∧
 Exists fun (x_5 : Pl.FP × Pl.FP) =>
 ((x_3.fst.fst = x_5.fst.fst.fst ∧
 x_3.fst.snd.fst.fst = x_5.fst.fst.snd.fst.fst ∧
 x_3.fst.snd.fst.snd.fst.fst = x_5.fst.fst.snd.fst.snd.fst.fst ∧
 Is (terms x_3.fst.snd.fst.snd.fst.snd) (terms x_5.fst.fst.snd.fst.snd.fst.snd) ∧
 x_3.fst.snd.fst.snd.snd.fst.fst = x_5.fst.fst.snd.fst.snd.snd.fst.fst ∧
 Is (terms x_3.fst.snd.fst.snd.snd.fst.snd) (terms x_5.fst.fst.snd.fst.snd.snd.fst.snd) ∧
 Is (terms x_3.fst.snd.fst.snd.snd.snd.fst) (terms x_5.fst.fst.snd.fst.snd.snd.snd.fst) ∧
 Is (ints x_3.fst.snd.fst.snd.snd.snd.snd.fst) (ints x_5.fst.fst.snd.fst.snd.snd.snd.snd.fst) ∧
 x_3.fst.snd.fst.snd.snd.snd.snd.snd.fst = x_5.fst.fst.snd.fst.snd.snd.snd.snd.snd.fst ∧
 x_3.fst.snd.fst.snd.snd.snd.snd.snd.snd = x_5.fst.fst.snd.fst.snd.snd.snd.snd.snd.snd ∧
 x_3.fst.snd.snd = x_5.fst.fst.snd.snd ∧ Is (forms x_3.snd) (forms x_5.fst.snd) ∧ True) ∧
 (x_4.fst.fst = x_5.snd.fst.fst ∧
 x_4.fst.snd.fst.fst = x_5.snd.fst.snd.fst.fst ∧
 x_4.fst.snd.fst.snd.fst.fst = x_5.snd.fst.snd.fst.snd.fst.fst ∧
 Is (terms x_4.fst.snd.fst.snd.fst.snd) (terms x_5.snd.fst.snd.fst.snd.fst.snd) ∧
 x_4.fst.snd.fst.snd.snd.fst.fst = x_5.snd.fst.snd.fst.snd.snd.fst.fst ∧
 Is (terms x_4.fst.snd.fst.snd.snd.fst.snd) (terms x_5.snd.fst.snd.fst.snd.snd.fst.snd) ∧
 Is (terms x_4.fst.snd.fst.snd.snd.snd.fst) (terms x_5.snd.fst.snd.fst.snd.snd.snd.fst) ∧
 Is (ints x_4.fst.snd.fst.snd.snd.snd.snd.fst) (ints x_5.snd.fst.snd.fst.snd.snd.snd.snd.fst) ∧
 x_4.fst.snd.fst.snd.snd.snd.snd.snd.fst = x_5.snd.fst.snd.fst.snd.snd.snd.snd.snd.fst ∧
 x_4.fst.snd.fst.snd.snd.snd.snd.snd.snd = x_5.snd.fst.snd.fst.snd.snd.snd.snd.snd.snd ∧
 x_4.fst.snd.snd = x_5.snd.fst.snd.snd ∧ Is (forms x_4.snd) (forms x_5.snd.snd) ∧ True) ∧
 True) ∧
 SmTr Pl.costPF (Pl.Tree.mk x_5.fst.fst x_5.fst.snd) ∧
 Exists fun (x_6 : Pl.FP) =>
 ((x.fst.fst.fst = x_6.fst.fst ∧
 x.fst.fst.snd.fst.fst = x_6.fst.snd.fst.fst ∧
 x.fst.fst.snd.fst.snd.fst.fst = x_6.fst.snd.fst.snd.fst.fst ∧
 Is (terms x.fst.fst.snd.fst.snd.fst.snd) (terms x_6.fst.snd.fst.snd.fst.snd) ∧
 x.fst.fst.snd.fst.snd.snd.fst.fst = x_6.fst.snd.fst.snd.snd.fst.fst ∧
 Is (terms x.fst.fst.snd.fst.snd.snd.fst.snd) (terms x_6.fst.snd.fst.snd.snd.fst.snd) ∧
 Is (terms x.fst.fst.snd.fst.snd.snd.snd.fst) (terms x_6.fst.snd.fst.snd.snd.snd.fst) ∧
 Is (ints x.fst.fst.snd.fst.snd.snd.snd.snd.fst) (ints x_6.fst.snd.fst.snd.snd.snd.snd.fst) ∧
 x.fst.fst.snd.fst.snd.snd.snd.snd.snd.fst = x_6.fst.snd.fst.snd.snd.snd.snd.snd.fst ∧
 x.fst.fst.snd.fst.snd.snd.snd.snd.snd.snd = x_6.fst.snd.fst.snd.snd.snd.snd.snd.snd ∧
 x.fst.fst.snd.snd = x_6.fst.snd.snd ∧ Is (forms x.fst.snd) (forms x_6.snd) ∧ True) ∧
 True) ∧
 SmTr Pl.costPF (Pl.Tree.mk x_6.fst x_6.snd) ∧
 Exists fun (x_7 : Pl.FP) =>
 ((x.snd.fst.fst = x_7.fst.fst ∧
 x.snd.fst.snd.fst.fst = x_7.fst.snd.fst.fst ∧
 x.snd.fst.snd.fst.snd.fst.fst = x_7.fst.snd.fst.snd.fst.fst ∧
 Is (terms x.snd.fst.snd.fst.snd.fst.snd) (terms x_7.fst.snd.fst.snd.fst.snd) ∧
 x.snd.fst.snd.fst.snd.snd.fst.fst = x_7.fst.snd.fst.snd.snd.fst.fst ∧
 Is (terms x.snd.fst.snd.fst.snd.snd.fst.snd) (terms x_7.fst.snd.fst.snd.snd.fst.snd) ∧
 Is (terms x.snd.fst.snd.fst.snd.snd.snd.fst) (terms x_7.fst.snd.fst.snd.snd.snd.fst) ∧
 Is (ints x.snd.fst.snd.fst.snd.snd.snd.snd.fst) (ints x_7.fst.snd.fst.snd.snd.snd.snd.fst) ∧
 x.snd.fst.snd.fst.snd.snd.snd.snd.snd.fst = x_7.fst.snd.fst.snd.snd.snd.snd.snd.fst ∧
 x.snd.fst.snd.fst.snd.snd.snd.snd.snd.snd = x_7.fst.snd.fst.snd.snd.snd.snd.snd.snd ∧
 x.snd.fst.snd.snd = x_7.fst.snd.snd ∧ Is (forms x.snd.snd) (forms x_7.snd) ∧ True) ∧
 True) ∧
 SmTr Pl.costPF (Pl.Tree.mk x_7.fst x_7.snd) ∧
 Exists fun (x_8 : Pl.FP × Pl.FP) =>
 ((x_6.fst.fst = x_8.fst.fst.fst ∧
 x_6.fst.snd.fst.fst = x_8.fst.fst.snd.fst.fst ∧
 x_6.fst.snd.fst.snd.fst.fst = x_8.fst.fst.snd.fst.snd.fst.fst ∧
 Is (terms x_6.fst.snd.fst.snd.fst.snd) (terms x_8.fst.fst.snd.fst.snd.fst.snd) ∧
 x_6.fst.snd.fst.snd.snd.fst.fst = x_8.fst.fst.snd.fst.snd.snd.fst.fst ∧
 Is (terms x_6.fst.snd.fst.snd.snd.fst.snd) (terms x_8.fst.fst.snd.fst.snd.snd.fst.snd) ∧
 Is (terms x_6.fst.snd.fst.snd.snd.snd.fst) (terms x_8.fst.fst.snd.fst.snd.snd.snd.fst) ∧
 Is (ints x_6.fst.snd.fst.snd.snd.snd.snd.fst) (ints x_8.fst.fst.snd.fst.snd.snd.snd.snd.fst) ∧
 x_6.fst.snd.fst.snd.snd.snd.snd.snd.fst = x_8.fst.fst.snd.fst.snd.snd.snd.snd.snd.fst ∧
 x_6.fst.snd.fst.snd.snd.snd.snd.snd.snd = x_8.fst.fst.snd.fst.snd.snd.snd.snd.snd.snd ∧
 x_6.fst.snd.snd = x_8.fst.fst.snd.snd ∧ Is (forms x_6.snd) (forms x_8.fst.snd) ∧ True) ∧
 (x_7.fst.fst = x_8.snd.fst.fst ∧
 x_7.fst.snd.fst.fst = x_8.snd.fst.snd.fst.fst ∧
 x_7.fst.snd.fst.snd.fst.fst = x_8.snd.fst.snd.fst.snd.fst.fst ∧
 Is (terms x_7.fst.snd.fst.snd.fst.snd) (terms x_8.snd.fst.snd.fst.snd.fst.snd) ∧
 x_7.fst.snd.fst.snd.snd.fst.fst = x_8.snd.fst.snd.fst.snd.snd.fst.fst ∧
 Is (terms x_7.fst.snd.fst.snd.snd.fst.snd) (terms x_8.snd.fst.snd.fst.snd.snd.fst.snd) ∧
 Is (terms x_7.fst.snd.fst.snd.snd.snd.fst) (terms x_8.snd.fst.snd.fst.snd.snd.snd.fst) ∧
 Is (ints x_7.fst.snd.fst.snd.snd.snd.snd.fst) (ints x_8.snd.fst.snd.fst.snd.snd.snd.snd.fst) ∧
 x_7.fst.snd.fst.snd.snd.snd.snd.snd.fst = x_8.snd.fst.snd.fst.snd.snd.snd.snd.snd.fst ∧
 x_7.fst.snd.fst.snd.snd.snd.snd.snd.snd = x_8.snd.fst.snd.fst.snd.snd.snd.snd.snd.snd ∧
 x_7.fst.snd.snd = x_8.snd.fst.snd.snd ∧ Is (forms x_7.snd) (forms x_8.snd.snd) ∧ True) ∧
 True) ∧
 SmTr Pl.costPF (Pl.Tree.mk x_8.fst.fst x_8.fst.snd) ∧
 condP (!Decidable.decide (x_8.fst = x_8.snd) == Decidable.decide (x_5.fst = x_5.snd)) (Bool.false = Bool.true)
 (Exists fun (x_9 : Pl.FP) =>
 ((x.fst.fst.fst = x_9.fst.fst ∧
 x.fst.fst.snd.fst.fst = x_9.fst.snd.fst.fst ∧
 x.fst.fst.snd.fst.snd.fst.fst = x_9.fst.snd.fst.snd.fst.fst ∧
 Is (terms x.fst.fst.snd.fst.snd.fst.snd) (terms x_9.fst.snd.fst.snd.fst.snd) ∧
 x.fst.fst.snd.fst.snd.snd.fst.fst = x_9.fst.snd.fst.snd.snd.fst.fst ∧
 Is (terms x.fst.fst.snd.fst.snd.snd.fst.snd) (terms x_9.fst.snd.fst.snd.snd.fst.snd) ∧
 Is (terms x.fst.fst.snd.fst.snd.snd.snd.fst) (terms x_9.fst.snd.fst.snd.snd.snd.fst) ∧
 Is (ints x.fst.fst.snd.fst.snd.snd.snd.snd.fst) (ints x_9.fst.snd.fst.snd.snd.snd.snd.fst) ∧
 x.fst.fst.snd.fst.snd.snd.snd.snd.snd.fst = x_9.fst.snd.fst.snd.snd.snd.snd.snd.fst ∧
 x.fst.fst.snd.fst.snd.snd.snd.snd.snd.snd = x_9.fst.snd.fst.snd.snd.snd.snd.snd.snd ∧
 x.fst.fst.snd.snd = x_9.fst.snd.snd ∧ Is (forms x.fst.snd) (forms x_9.snd) ∧ True) ∧
 True) ∧
 SmTr Pl.costPF (Pl.Tree.mk x_9.fst x_9.snd) ∧
 Exists fun (x_10 : Pl.FP × Pl.FP) =>
 ((x_6.fst.fst = x_10.fst.fst.fst ∧
 x_6.fst.snd.fst.fst = x_10.fst.fst.snd.fst.fst ∧
 x_6.fst.snd.fst.snd.fst.fst = x_10.fst.fst.snd.fst.snd.fst.fst ∧
 Is (terms x_6.fst.snd.fst.snd.fst.snd) (terms x_10.fst.fst.snd.fst.snd.fst.snd) ∧
 x_6.fst.snd.fst.snd.snd.fst.fst = x_10.fst.fst.snd.fst.snd.snd.fst.fst ∧
 Is (terms x_6.fst.snd.fst.snd.snd.fst.snd) (terms x_10.fst.fst.snd.fst.snd.snd.fst.snd) ∧
 Is (terms x_6.fst.snd.fst.snd.snd.snd.fst) (terms x_10.fst.fst.snd.fst.snd.snd.snd.fst) ∧
 Is (ints x_6.fst.snd.fst.snd.snd.snd.snd.fst) (ints x_10.fst.fst.snd.fst.snd.snd.snd.snd.fst) ∧
 x_6.fst.snd.fst.snd.snd.snd.snd.snd.fst = x_10.fst.fst.snd.fst.snd.snd.snd.snd.snd.fst ∧
 x_6.fst.snd.fst.snd.snd.snd.snd.snd.snd = x_10.fst.fst.snd.fst.snd.snd.snd.snd.snd.snd ∧
 x_6.fst.snd.snd = x_10.fst.fst.snd.snd ∧ Is (forms x_6.snd) (forms x_10.fst.snd) ∧ True) ∧
 (x_9.fst.fst = x_10.snd.fst.fst ∧
 x_9.fst.snd.fst.fst = x_10.snd.fst.snd.fst.fst ∧
 x_9.fst.snd.fst.snd.fst.fst = x_10.snd.fst.snd.fst.snd.fst.fst ∧
 Is (terms x_9.fst.snd.fst.snd.fst.snd) (terms x_10.snd.fst.snd.fst.snd.fst.snd) ∧
 x_9.fst.snd.fst.snd.snd.fst.fst = x_10.snd.fst.snd.fst.snd.snd.fst.fst ∧
 Is (terms x_9.fst.snd.fst.snd.snd.fst.snd) (terms x_10.snd.fst.snd.fst.snd.snd.fst.snd) ∧
 Is (terms x_9.fst.snd.fst.snd.snd.snd.fst) (terms x_10.snd.fst.snd.fst.snd.snd.snd.fst) ∧
 Is (ints x_9.fst.snd.fst.snd.snd.snd.snd.fst) (ints x_10.snd.fst.snd.fst.snd.snd.snd.snd.fst) ∧
 x_9.fst.snd.fst.snd.snd.snd.snd.snd.fst = x_10.snd.fst.snd.fst.snd.snd.snd.snd.snd.fst ∧
 x_9.fst.snd.fst.snd.snd.snd.snd.snd.snd = x_10.snd.fst.snd.fst.snd.snd.snd.snd.snd.snd ∧
 x_9.fst.snd.snd = x_10.snd.fst.snd.snd ∧ Is (forms x_9.snd) (forms x_10.snd.snd) ∧ True) ∧
 True) ∧
 SmTr Pl.costPF (Pl.Tree.mk x_10.fst.fst x_10.fst.snd) ∧
 condP (!Decidable.decide (x_10.fst = x_10.snd)) (Bool.false = Bool.true)
 (Exists fun (x_11 : Pl.FP) =>
 ((x.snd.fst.fst = x_11.fst.fst ∧
 x.snd.fst.snd.fst.fst = x_11.fst.snd.fst.fst ∧
 x.snd.fst.snd.fst.snd.fst.fst = x_11.fst.snd.fst.snd.fst.fst ∧
 Is (terms x.snd.fst.snd.fst.snd.fst.snd) (terms x_11.fst.snd.fst.snd.fst.snd) ∧
 x.snd.fst.snd.fst.snd.snd.fst.fst = x_11.fst.snd.fst.snd.snd.fst.fst ∧
 Is (terms x.snd.fst.snd.fst.snd.snd.fst.snd) (terms x_11.fst.snd.fst.snd.snd.fst.snd) ∧
 Is (terms x.snd.fst.snd.fst.snd.snd.snd.fst) (terms x_11.fst.snd.fst.snd.snd.snd.fst) ∧
 Is (ints x.snd.fst.snd.fst.snd.snd.snd.snd.fst) (ints x_11.fst.snd.fst.snd.snd.snd.snd.fst) ∧
 x.snd.fst.snd.fst.snd.snd.snd.snd.snd.fst = x_11.fst.snd.fst.snd.snd.snd.snd.snd.fst ∧
 x.snd.fst.snd.fst.snd.snd.snd.snd.snd.snd = x_11.fst.snd.fst.snd.snd.snd.snd.snd.snd ∧
 x.snd.fst.snd.snd = x_11.fst.snd.snd ∧ Is (forms x.snd.snd) (forms x_11.snd) ∧ True) ∧
 True) ∧
 SmTr Pl.costPF (Pl.Tree.mk x_11.fst x_11.snd) ∧
 Exists fun (x : Pl.FP × Pl.FP) =>
 ((x_7.fst.fst = x.fst.fst.fst ∧
 x_7.fst.snd.fst.fst = x.fst.fst.snd.fst.fst ∧
 x_7.fst.snd.fst.snd.fst.fst = x.fst.fst.snd.fst.snd.fst.fst ∧
 Is (terms x_7.fst.snd.fst.snd.fst.snd) (terms x.fst.fst.snd.fst.snd.fst.snd) ∧
 x_7.fst.snd.fst.snd.snd.fst.fst = x.fst.fst.snd.fst.snd.snd.fst.fst ∧
 Is (terms x_7.fst.snd.fst.snd.snd.fst.snd) (terms x.fst.fst.snd.fst.snd.snd.fst.snd) ∧
 Is (terms x_7.fst.snd.fst.snd.snd.snd.fst) (terms x.fst.fst.snd.fst.snd.snd.snd.fst) ∧
 Is (ints x_7.fst.snd.fst.snd.snd.snd.snd.fst) (ints x.fst.fst.snd.fst.snd.snd.snd.snd.fst) ∧
 x_7.fst.snd.fst.snd.snd.snd.snd.snd.fst = x.fst.fst.snd.fst.snd.snd.snd.snd.snd.fst ∧
 x_7.fst.snd.fst.snd.snd.snd.snd.snd.snd = x.fst.fst.snd.fst.snd.snd.snd.snd.snd.snd ∧
 x_7.fst.snd.snd = x.fst.fst.snd.snd ∧ Is (forms x_7.snd) (forms x.fst.snd) ∧ True) ∧
 (x_11.fst.fst = x.snd.fst.fst ∧
 x_11.fst.snd.fst.fst = x.snd.fst.snd.fst.fst ∧
 x_11.fst.snd.fst.snd.fst.fst = x.snd.fst.snd.fst.snd.fst.fst ∧
 Is (terms x_11.fst.snd.fst.snd.fst.snd) (terms x.snd.fst.snd.fst.snd.fst.snd) ∧
 x_11.fst.snd.fst.snd.snd.fst.fst = x.snd.fst.snd.fst.snd.snd.fst.fst ∧
 Is (terms x_11.fst.snd.fst.snd.snd.fst.snd) (terms x.snd.fst.snd.fst.snd.snd.fst.snd) ∧
 Is (terms x_11.fst.snd.fst.snd.snd.snd.fst) (terms x.snd.fst.snd.fst.snd.snd.snd.fst) ∧
 Is (ints x_11.fst.snd.fst.snd.snd.snd.snd.fst) (ints x.snd.fst.snd.fst.snd.snd.snd.snd.fst) ∧
 x_11.fst.snd.fst.snd.snd.snd.snd.snd.fst = x.snd.fst.snd.fst.snd.snd.snd.snd.snd.fst ∧
 x_11.fst.snd.fst.snd.snd.snd.snd.snd.snd = x.snd.fst.snd.fst.snd.snd.snd.snd.snd.snd ∧
 x_11.fst.snd.snd = x.snd.fst.snd.snd ∧ Is (forms x_11.snd) (forms x.snd.snd) ∧ True) ∧
 True) ∧
 SmTr Pl.costPF (Pl.Tree.mk x.fst.fst x.fst.snd) ∧
 condP (!Decidable.decide (x.fst = x.snd)) (Bool.false = Bool.true) (Bool.true = Bool.true)))))) = Goal Try.prog [K_szForm, K_toForm, K_sFormSame, K_iFormSame, K_eqForm] ([]) K_xFormSame.1 K_xFormSame.2 (x) := by kernel_rfl

theorem vc_szCase_ (n : Nat) (x : Pl.CP × Int) : (Exists fun (x_1 : Pl.WP × Int) =>
 ((x.fst.fst.snd.snd.fst.fst.fst = x_1.fst.fst.fst ∧
 x.fst.fst.snd.snd.fst.fst.snd.fst = x_1.fst.fst.snd.fst ∧
 x.fst.fst.snd.snd.fst.fst.snd.snd.fst = x_1.fst.fst.snd.snd.fst ∧
 Is (terms x.fst.fst.snd.snd.fst.fst.snd.snd.snd) (terms x_1.fst.fst.snd.snd.snd) ∧ Is (whys x.fst.fst.snd.snd.fst.snd) (whys x_1.fst.snd) ∧ True) ∧
 x.snd = x_1.snd ∧ True) ∧
 (MlW (Pl.Tree.mk x_1.fst.fst x_1.fst.snd) ∧ Fu x_1.snd) ∧
 condP (Decidable.decide (Pl.lim (x_1.snd - (↑(Pl.costTr Pl.costPW (Pl.Tree.mk x_1.fst.fst x_1.fst.snd)) : Int)) < (0 : Int)))
 ((-1 : Int) = Pl.lim (x.snd - (↑(Pl.costTr Pl.costPC (Pl.Tree.mk x.fst.fst x.fst.snd)) : Int)))
 (Exists fun (x_2 : List Int × Int) =>
 (Is (ints x.fst.fst.snd.snd.snd.fst) (ints x_2.fst) ∧ Pl.lim (x_1.snd - (↑(Pl.costTr Pl.costPW (Pl.Tree.mk x_1.fst.fst x_1.fst.snd)) : Int)) = x_2.snd ∧ True) ∧
 (Ml x_2.fst ∧ Fu x_2.snd) ∧
 condP (Decidable.decide (Pl.sz1 x_2.fst.length x_2.snd < (0 : Int))) ((-1 : Int) = Pl.lim (x.snd - (↑(Pl.costTr Pl.costPC (Pl.Tree.mk x.fst.fst x.fst.snd)) : Int)))
 (Exists fun (x_3 : Pl.TP × Int) =>
 ((x.fst.fst.snd.snd.snd.snd.fst.fst = x_3.fst.fst ∧ Is (terms x.fst.fst.snd.snd.snd.snd.fst.snd) (terms x_3.fst.snd) ∧ True) ∧
 Pl.sz1 x_2.fst.length x_2.snd = x_3.snd ∧ True) ∧
 (MlT (Pl.Tree.mk x_3.fst.fst x_3.fst.snd) ∧ Fu x_3.snd) ∧
 condP (Decidable.decide (Pl.lim (x_3.snd - (↑(Pl.costT (Pl.Tree.mk x_3.fst.fst x_3.fst.snd)) : Int)) < (0 : Int)))
 ((-1 : Int) = Pl.lim (x.snd - (↑(Pl.costTr Pl.costPC (Pl.Tree.mk x.fst.fst x.fst.snd)) : Int)))
 (Exists fun (x_4 : Pl.TP × Int) =>
 ((x.fst.fst.snd.snd.snd.snd.snd.fst = x_4.fst.fst ∧ Is (terms x.fst.fst.snd.snd.snd.snd.snd.snd) (terms x_4.fst.snd) ∧ True) ∧
 Pl.lim (x_3.snd - (↑(Pl.costT (Pl.Tree.mk x_3.fst.fst x_3.fst.snd)) : Int)) = x_4.snd ∧ True) ∧
 (MlT (Pl.Tree.mk x_4.fst.fst x_4.fst.snd) ∧ Fu x_4.snd) ∧
 condP (Decidable.decide (Pl.lim (x_4.snd - (↑(Pl.costT (Pl.Tree.mk x_4.fst.fst x_4.fst.snd)) : Int)) < (0 : Int)))
 ((-1 : Int) = Pl.lim (x.snd - (↑(Pl.costTr Pl.costPC (Pl.Tree.mk x.fst.fst x.fst.snd)) : Int)))
 (Exists fun (x_5 : List Pl.Cse × Int) =>
 (Is (cases x.fst.snd) (cases x_5.fst) ∧ Pl.lim (x_4.snd - (↑(Pl.costT (Pl.Tree.mk x_4.fst.fst x_4.fst.snd)) : Int)) = x_5.snd ∧ True) ∧
 (((Ml x_5.fst ∧ ∀ (t : Pl.Cse), t ∈ x_5.fst → MlC t) ∧ Fu x_5.snd) ∧ Pl.manyL x_5.fst < n) ∧
 condP (Decidable.decide (Pl.lim (x_5.snd - (↑(x_5.fst.length + Pl.costTrs Pl.costPC x_5.fst) : Int)) < (0 : Int)))
 ((-1 : Int) = Pl.lim (x.snd - (↑(Pl.costTr Pl.costPC (Pl.Tree.mk x.fst.fst x.fst.snd)) : Int)))
 (Pl.lim (x_5.snd - (↑(x_5.fst.length + Pl.costTrs Pl.costPC x_5.fst) : Int)) =
 Pl.lim (x.snd - (↑(Pl.costTr Pl.costPC (Pl.Tree.mk x.fst.fst x.fst.snd)) : Int)))))))) = Goal Try.prog [K_szWhy, K_szIntS, K_szT, (K_szCaseS_ n)] ([]) (K_szCase_ n).1 (K_szCase_ n).2 (x) := by kernel_rfl

theorem vc_szCaseS_ (n : Nat) (x : List Pl.Cse × Int) : (condP (Decidable.decide (IntKind.i64.wrap (x.snd - (↑x.fst.length : Int)) < (0 : Int))) ((-1 : Int) = Pl.lim (x.snd - (↑(x.fst.length + Pl.costTrs Pl.costPC x.fst) : Int)))
 ((Exists fun (x_1 : Nat) =>
 (x_1 ≤ x.fst.length ∧ (0 : Int) ≤ x.snd - (↑x.fst.length : Int) - (↑(Pl.costTrs Pl.costPC (List.take x_1 x.fst)) : Int)) ∧
 (Is (cases x.fst) (cases x.fst) ∧
 IntKind.i64.wrap (x.snd - (↑x.fst.length : Int)) = x.snd - (↑x.fst.length : Int) - (↑(Pl.costTrs Pl.costPC (List.take x_1 x.fst)) : Int) ∧ (0 : Int) = (↑x_1 : Int) ∧ True) ∧
 True) ∧
 ∀ (x_1 : Nat),
 x_1 ≤ x.fst.length ∧ (0 : Int) ≤ x.snd - (↑x.fst.length : Int) - (↑(Pl.costTrs Pl.costPC (List.take x_1 x.fst)) : Int) →
 condP (Decidable.decide ((↑x_1 : Int) < (↑x.fst.length : Int)))
 (((0 : Int) ≤ (↑x_1 : Int) ∧ (↑x_1 : Int) < (↑x.fst.length : Int)) ∧
 x_1 < x.fst.length ∧
 Exists fun (x_2 : Pl.CP × Int) =>
 (((Pl.Tree.val (x.fst.getD x_1 Pl.dC)).fst = x_2.fst.fst.fst ∧
 (Pl.Tree.val (x.fst.getD x_1 Pl.dC)).snd.fst = x_2.fst.fst.snd.fst ∧
 (Pl.Tree.val (x.fst.getD x_1 Pl.dC)).snd.snd.fst.fst.fst = x_2.fst.fst.snd.snd.fst.fst.fst ∧
 (Pl.Tree.val (x.fst.getD x_1 Pl.dC)).snd.snd.fst.fst.snd.fst = x_2.fst.fst.snd.snd.fst.fst.snd.fst ∧
 (Pl.Tree.val (x.fst.getD x_1 Pl.dC)).snd.snd.fst.fst.snd.snd.fst = x_2.fst.fst.snd.snd.fst.fst.snd.snd.fst ∧
 Is (terms (Pl.Tree.val (x.fst.getD x_1 Pl.dC)).snd.snd.fst.fst.snd.snd.snd) (terms x_2.fst.fst.snd.snd.fst.fst.snd.snd.snd) ∧
 Is (whys (Pl.Tree.val (x.fst.getD x_1 Pl.dC)).snd.snd.fst.snd) (whys x_2.fst.fst.snd.snd.fst.snd) ∧
 Is (ints (Pl.Tree.val (x.fst.getD x_1 Pl.dC)).snd.snd.snd.fst) (ints x_2.fst.fst.snd.snd.snd.fst) ∧
 (Pl.Tree.val (x.fst.getD x_1 Pl.dC)).snd.snd.snd.snd.fst.fst = x_2.fst.fst.snd.snd.snd.snd.fst.fst ∧
 Is (terms (Pl.Tree.val (x.fst.getD x_1 Pl.dC)).snd.snd.snd.snd.fst.snd) (terms x_2.fst.fst.snd.snd.snd.snd.fst.snd) ∧
 (Pl.Tree.val (x.fst.getD x_1 Pl.dC)).snd.snd.snd.snd.snd.fst = x_2.fst.fst.snd.snd.snd.snd.snd.fst ∧
 Is (terms (Pl.Tree.val (x.fst.getD x_1 Pl.dC)).snd.snd.snd.snd.snd.snd) (terms x_2.fst.fst.snd.snd.snd.snd.snd.snd) ∧
 Is (kidsC (x.fst.getD x_1 Pl.dC)) (cases x_2.fst.snd) ∧ True) ∧
 x.snd - (↑x.fst.length : Int) - (↑(Pl.costTrs Pl.costPC (List.take x_1 x.fst)) : Int) = x_2.snd ∧ True) ∧
 ((MlC (Pl.Tree.mk x_2.fst.fst x_2.fst.snd) ∧ Fu x_2.snd) ∧ Pl.manyL x_2.fst.snd < n) ∧
 condP (Decidable.decide (Pl.lim (x_2.snd - (↑(Pl.costTr Pl.costPC (Pl.Tree.mk x_2.fst.fst x_2.fst.snd)) : Int)) < (0 : Int)))
 ((-1 : Int) = Pl.lim (x.snd - (↑(x.fst.length + Pl.costTrs Pl.costPC x.fst) : Int)))
 (Exists fun (x' : Nat) =>
 (x' ≤ x.fst.length ∧ (0 : Int) ≤ x.snd - (↑x.fst.length : Int) - (↑(Pl.costTrs Pl.costPC (List.take x' x.fst)) : Int)) ∧
 x.fst.length - x' < x.fst.length - x_1 ∧
 (Is (cases x.fst) (cases x.fst) ∧
 Pl.lim (x_2.snd - (↑(Pl.costTr Pl.costPC (Pl.Tree.mk x_2.fst.fst x_2.fst.snd)) : Int)) =
 x.snd - (↑x.fst.length : Int) - (↑(Pl.costTrs Pl.costPC (List.take x' x.fst)) : Int) ∧
 IntKind.i64.wrap ((↑x_1 : Int) + (1 : Int)) = (↑x' : Int) ∧ True) ∧
 True))
 (x.snd - (↑x.fst.length : Int) - (↑(Pl.costTrs Pl.costPC (List.take x_1 x.fst)) : Int) = Pl.lim (x.snd - (↑(x.fst.length + Pl.costTrs Pl.costPC x.fst) : Int))))) = Goal Try.prog [(K_szCase_ n)] (A_szCaseS x.1 x.2) (K_szCaseS_ (n + 1)).1 (K_szCaseS_ (n + 1)).2 (x) := by kernel_rfl

theorem vc_toCase_ (n : Nat) (x : Pl.CP) : (Exists fun (x_1 : Pl.WP) =>
 ((x.fst.snd.snd.fst.fst.fst = x_1.fst.fst ∧
 x.fst.snd.snd.fst.fst.snd.fst = x_1.fst.snd.fst ∧
 x.fst.snd.snd.fst.fst.snd.snd.fst = x_1.fst.snd.snd.fst ∧
 Is (terms x.fst.snd.snd.fst.fst.snd.snd.snd) (terms x_1.fst.snd.snd.snd) ∧ Is (whys x.fst.snd.snd.fst.snd) (whys x_1.snd) ∧ True) ∧
 True) ∧
 SmTr Pl.costPW (Pl.Tree.mk x_1.fst x_1.snd) ∧
 Exists fun (x_2 : List Int) =>
 (Is (ints x.fst.snd.snd.snd.fst) (ints x_2) ∧ True) ∧
 Sz x_2 ∧
 Exists fun (x_3 : Pl.TP) =>
 ((x.fst.snd.snd.snd.snd.fst.fst = x_3.fst ∧ Is (terms x.fst.snd.snd.snd.snd.fst.snd) (terms x_3.snd) ∧ True) ∧ True) ∧
 SmT (Pl.Tree.mk x_3.fst x_3.snd) ∧
 Exists fun (x_4 : Pl.TP) =>
 ((x.fst.snd.snd.snd.snd.snd.fst = x_4.fst ∧ Is (terms x.fst.snd.snd.snd.snd.snd.snd) (terms x_4.snd) ∧ True) ∧ True) ∧
 SmT (Pl.Tree.mk x_4.fst x_4.snd) ∧
 Exists fun (x_5 : List Pl.Cse) =>
 (Is (cases x.snd) (cases x_5) ∧ True) ∧
 (SmTrs Pl.costPC x_5 ∧ Pl.manyL x_5 < n) ∧
 x.fst.fst = x.fst.fst ∧
 x.fst.snd.fst = x.fst.snd.fst ∧
 x_1.fst.fst = x.fst.snd.snd.fst.fst.fst ∧
 x_1.fst.snd.fst = x.fst.snd.snd.fst.fst.snd.fst ∧
 x_1.fst.snd.snd.fst = x.fst.snd.snd.fst.fst.snd.snd.fst ∧
 Is (terms x_1.fst.snd.snd.snd) (terms x.fst.snd.snd.fst.fst.snd.snd.snd) ∧
 Is (whys x_1.snd) (whys x.fst.snd.snd.fst.snd) ∧
 Is (ints x_2) (ints x.fst.snd.snd.snd.fst) ∧
 x_3.fst = x.fst.snd.snd.snd.snd.fst.fst ∧
 Is (terms x_3.snd) (terms x.fst.snd.snd.snd.snd.fst.snd) ∧
 x_4.fst = x.fst.snd.snd.snd.snd.snd.fst ∧
 Is (terms x_4.snd) (terms x.fst.snd.snd.snd.snd.snd.snd) ∧ Is (cases x_5) (cases x.snd) ∧ True) = Goal Try.prog [K_toWhy, K_toIntS, K_toT, (K_toCaseS_ n)] ([]) (K_toCase_ n).1 (K_toCase_ n).2 (x) := by kernel_rfl

theorem vc_toCaseS_ (n : Nat) (x : List Pl.Cse) : ((0 : Int) ≤ (↑x.length : Int) ∧
 (↑x.length : Int) ≤ (↑x.length : Int) ∧
 (↑(224 : Nat) : Int) * (↑x.length : Int) ≤ (140737488355328 : Int) ∧
 (↑x.length : Int) ≤ (140737488355328 : Int) ∧
 (Exists fun (x_1 : Nat × List Pl.Cse) =>
 (x_1.fst ≤ x.length ∧ x_1.snd.length = x.length ∧ List.take x_1.fst x_1.snd = List.take x_1.fst x) ∧
 (Is (cases x) (cases x) ∧ ((0 : Nat) = (0 : Nat) ∧ x.length = x_1.snd.length) ∧ (0 : Int) = (↑x_1.fst : Int) ∧ True) ∧
 IsO
 (AObj.arr x.length (13 : Nat) fun (x j : Nat) =>
 [i64 (0 : Int), i64 (0 : Int), i64 (0 : Int), i64 (0 : Int), st { data := #[] }, AV.lit (0 : Nat) (1 : Nat) fun (x x_2 : Nat) => AV.any,
 AV.lit (0 : Nat) (1 : Nat) fun (x x_2 : Nat) => AV.any, AV.lit (0 : Nat) (1 : Nat) fun (x x_2 : Nat) => AV.any, st { data := #[] },
 AV.lit (0 : Nat) (1 : Nat) fun (x x_2 : Nat) => AV.any, st { data := #[] }, AV.lit (0 : Nat) (1 : Nat) fun (x x_2 : Nat) => AV.any,
 AV.lit (0 : Nat) (1 : Nat) fun (x x_2 : Nat) => AV.any].getD
 j AV.any)
 (arC x_1.snd) ∧
 True) ∧
 ∀ (x_1 : Nat × List Pl.Cse),
 x_1.fst ≤ x.length ∧ x_1.snd.length = x.length ∧ List.take x_1.fst x_1.snd = List.take x_1.fst x →
 condP (Decidable.decide ((↑x_1.fst : Int) < (↑x.length : Int)))
 (((0 : Int) ≤ (↑x_1.fst : Int) ∧ (↑x_1.fst : Int) < (↑x.length : Int)) ∧
 x_1.fst < x.length ∧
 Exists fun (x_2 : Pl.CP) =>
 (((Pl.Tree.val (x.getD x_1.fst Pl.dC)).fst = x_2.fst.fst ∧
 (Pl.Tree.val (x.getD x_1.fst Pl.dC)).snd.fst = x_2.fst.snd.fst ∧
 (Pl.Tree.val (x.getD x_1.fst Pl.dC)).snd.snd.fst.fst.fst = x_2.fst.snd.snd.fst.fst.fst ∧
 (Pl.Tree.val (x.getD x_1.fst Pl.dC)).snd.snd.fst.fst.snd.fst = x_2.fst.snd.snd.fst.fst.snd.fst ∧
 (Pl.Tree.val (x.getD x_1.fst Pl.dC)).snd.snd.fst.fst.snd.snd.fst = x_2.fst.snd.snd.fst.fst.snd.snd.fst ∧
 Is (terms (Pl.Tree.val (x.getD x_1.fst Pl.dC)).snd.snd.fst.fst.snd.snd.snd) (terms x_2.fst.snd.snd.fst.fst.snd.snd.snd) ∧
 Is (whys (Pl.Tree.val (x.getD x_1.fst Pl.dC)).snd.snd.fst.snd) (whys x_2.fst.snd.snd.fst.snd) ∧
 Is (ints (Pl.Tree.val (x.getD x_1.fst Pl.dC)).snd.snd.snd.fst) (ints x_2.fst.snd.snd.snd.fst) ∧
 (Pl.Tree.val (x.getD x_1.fst Pl.dC)).snd.snd.snd.snd.fst.fst = x_2.fst.snd.snd.snd.snd.fst.fst ∧
 Is (terms (Pl.Tree.val (x.getD x_1.fst Pl.dC)).snd.snd.snd.snd.fst.snd) (terms x_2.fst.snd.snd.snd.snd.fst.snd) ∧
 (Pl.Tree.val (x.getD x_1.fst Pl.dC)).snd.snd.snd.snd.snd.fst = x_2.fst.snd.snd.snd.snd.snd.fst ∧
 Is (terms (Pl.Tree.val (x.getD x_1.fst Pl.dC)).snd.snd.snd.snd.snd.snd) (terms x_2.fst.snd.snd.snd.snd.snd.snd) ∧
 Is (kidsC (x.getD x_1.fst Pl.dC)) (cases x_2.snd) ∧ True) ∧
 True) ∧
 (SmTr Pl.costPC (Pl.Tree.mk x_2.fst x_2.snd) ∧ Pl.manyL x_2.snd < n) ∧
 ((0 : Int) ≤ (↑x_1.fst : Int) ∧ (↑x_1.fst : Int) < (↑x_1.snd.length : Int)) ∧
 x_1.fst < x_1.snd.length ∧
 Exists fun (x' : Nat × List Pl.Cse) =>
 (x'.fst ≤ x.length ∧ x'.snd.length = x.length ∧ List.take x'.fst x'.snd = List.take x'.fst x) ∧
 x.length - x'.fst < x.length - x_1.fst ∧
 (Is (cases x) (cases x) ∧
 ((0 : Nat) = (0 : Nat) ∧ x_1.snd.length = x'.snd.length) ∧ IntKind.i64.wrap ((↑x_1.fst : Int) + (1 : Int)) = (↑x'.fst : Int) ∧ True) ∧
 IsO
 (AObj.arr x_1.snd.length (13 : Nat)
 (storeC (cC x_1.snd) x_1.fst (0 : Nat)
 [i64 x_2.fst.fst, i64 x_2.fst.snd.fst, i64 x_2.fst.snd.snd.fst.fst.fst, i64 x_2.fst.snd.snd.fst.fst.snd.fst,
 st x_2.fst.snd.snd.fst.fst.snd.snd.fst, terms x_2.fst.snd.snd.fst.fst.snd.snd.snd, whys x_2.fst.snd.snd.fst.snd,
 ints x_2.fst.snd.snd.snd.fst, st x_2.fst.snd.snd.snd.snd.fst.fst, terms x_2.fst.snd.snd.snd.snd.fst.snd, st x_2.fst.snd.snd.snd.snd.snd.fst,
 terms x_2.fst.snd.snd.snd.snd.snd.snd, cases x_2.snd]))
 (arC x'.snd) ∧
 True)
 ((0 : Nat) + x_1.snd.length ≤ x_1.snd.length ∧ Is (cases x_1.snd) (cases x))) = Goal Try.prog [(K_toCase_ n)] (A_toCaseS x) (K_toCaseS_ (n + 1)).1 (K_toCaseS_ (n + 1)).2 (x) := by kernel_rfl

theorem vc_eqCase_ (n : Nat) (x : Pl.CP × Pl.CP) : (condP (x.fst.fst.fst != x.snd.fst.fst) (Bool.false = Decidable.decide (x.fst = x.snd))
 (condP (x.fst.fst.snd.fst != x.snd.fst.snd.fst) (Bool.false = Decidable.decide (x.fst = x.snd))
 (Exists fun (x_1 : Pl.WP × Pl.WP) =>
 ((x.fst.fst.snd.snd.fst.fst.fst = x_1.fst.fst.fst ∧
 x.fst.fst.snd.snd.fst.fst.snd.fst = x_1.fst.fst.snd.fst ∧
 x.fst.fst.snd.snd.fst.fst.snd.snd.fst = x_1.fst.fst.snd.snd.fst ∧
 Is (terms x.fst.fst.snd.snd.fst.fst.snd.snd.snd) (terms x_1.fst.fst.snd.snd.snd) ∧ Is (whys x.fst.fst.snd.snd.fst.snd) (whys x_1.fst.snd) ∧ True) ∧
 (x.snd.fst.snd.snd.fst.fst.fst = x_1.snd.fst.fst ∧
 x.snd.fst.snd.snd.fst.fst.snd.fst = x_1.snd.fst.snd.fst ∧
 x.snd.fst.snd.snd.fst.fst.snd.snd.fst = x_1.snd.fst.snd.snd.fst ∧
 Is (terms x.snd.fst.snd.snd.fst.fst.snd.snd.snd) (terms x_1.snd.fst.snd.snd.snd) ∧ Is (whys x.snd.fst.snd.snd.fst.snd) (whys x_1.snd.snd) ∧ True) ∧
 True) ∧
 SmTr Pl.costPW (Pl.Tree.mk x_1.fst.fst x_1.fst.snd) ∧
 condP (!Decidable.decide (x_1.fst = x_1.snd)) (Bool.false = Decidable.decide (x.fst = x.snd))
 (Exists fun (x_2 : List Int × List Int) =>
 (Is (ints x.fst.fst.snd.snd.snd.fst) (ints x_2.fst) ∧ Is (ints x.snd.fst.snd.snd.snd.fst) (ints x_2.snd) ∧ True) ∧
 Sz x_2.fst ∧
 condP (!Decidable.decide (x_2.fst = x_2.snd)) (Bool.false = Decidable.decide (x.fst = x.snd))
 (Exists fun (x_3 : Pl.TP × Pl.TP) =>
 ((x.fst.fst.snd.snd.snd.snd.fst.fst = x_3.fst.fst ∧ Is (terms x.fst.fst.snd.snd.snd.snd.fst.snd) (terms x_3.fst.snd) ∧ True) ∧
 (x.snd.fst.snd.snd.snd.snd.fst.fst = x_3.snd.fst ∧ Is (terms x.snd.fst.snd.snd.snd.snd.fst.snd) (terms x_3.snd.snd) ∧ True) ∧ True) ∧
 SmT (Pl.Tree.mk x_3.fst.fst x_3.fst.snd) ∧
 condP (!Decidable.decide (x_3.fst = x_3.snd)) (Bool.false = Decidable.decide (x.fst = x.snd))
 (Exists fun (x_4 : Pl.TP × Pl.TP) =>
 ((x.fst.fst.snd.snd.snd.snd.snd.fst = x_4.fst.fst ∧ Is (terms x.fst.fst.snd.snd.snd.snd.snd.snd) (terms x_4.fst.snd) ∧ True) ∧
 (x.snd.fst.snd.snd.snd.snd.snd.fst = x_4.snd.fst ∧ Is (terms x.snd.fst.snd.snd.snd.snd.snd.snd) (terms x_4.snd.snd) ∧ True) ∧ True) ∧
 SmT (Pl.Tree.mk x_4.fst.fst x_4.fst.snd) ∧
 condP (!Decidable.decide (x_4.fst = x_4.snd)) (Bool.false = Decidable.decide (x.fst = x.snd))
 (Exists fun (x_5 : List Pl.Cse × List Pl.Cse) =>
 (Is (cases x.fst.snd) (cases x_5.fst) ∧ Is (cases x.snd.snd) (cases x_5.snd) ∧ True) ∧
 (SmTrs Pl.costPC x_5.fst ∧ Pl.manyL x_5.fst < n) ∧
 condP (!Decidable.decide (x_5.fst = x_5.snd)) (Bool.false = Decidable.decide (x.fst = x.snd)) (Bool.true = Decidable.decide (x.fst = x.snd))))))))) = Goal Try.prog [K_eqWhy, K_eqIntS, K_eqT, (K_eqCaseS_ n)] ([]) (K_eqCase_ n).1 (K_eqCase_ n).2 (x) := by kernel_rfl

theorem vc_eqCaseS_ (n : Nat) (x : List Pl.Cse × List Pl.Cse) : (condP ((↑x.fst.length : Int) != (↑x.snd.length : Int)) (Bool.false = Decidable.decide (x.fst = x.snd))
 ((Exists fun (x_1 : Nat) =>
 (x_1 ≤ x.fst.length ∧ x.fst.length = x.snd.length ∧ (x.fst = x.snd ↔ List.drop x_1 x.fst = List.drop x_1 x.snd)) ∧
 (Is (cases x.fst) (cases x.fst) ∧ Is (cases x.snd) (cases x.snd) ∧ (0 : Int) = (↑x_1 : Int) ∧ True) ∧ True) ∧
 ∀ (x_1 : Nat),
 x_1 ≤ x.fst.length ∧ x.fst.length = x.snd.length ∧ (x.fst = x.snd ↔ List.drop x_1 x.fst = List.drop x_1 x.snd) →
 condP (Decidable.decide ((↑x_1 : Int) < (↑x.fst.length : Int)))
 (((0 : Int) ≤ (↑x_1 : Int) ∧ (↑x_1 : Int) < (↑x.fst.length : Int)) ∧
 x_1 < x.fst.length ∧
 ((0 : Int) ≤ (↑x_1 : Int) ∧ (↑x_1 : Int) < (↑x.snd.length : Int)) ∧
 x_1 < x.snd.length ∧
 Exists fun (x_2 : Pl.CP × Pl.CP) =>
 (((Pl.Tree.val (x.fst.getD x_1 Pl.dC)).fst = x_2.fst.fst.fst ∧
 (Pl.Tree.val (x.fst.getD x_1 Pl.dC)).snd.fst = x_2.fst.fst.snd.fst ∧
 (Pl.Tree.val (x.fst.getD x_1 Pl.dC)).snd.snd.fst.fst.fst = x_2.fst.fst.snd.snd.fst.fst.fst ∧
 (Pl.Tree.val (x.fst.getD x_1 Pl.dC)).snd.snd.fst.fst.snd.fst = x_2.fst.fst.snd.snd.fst.fst.snd.fst ∧
 (Pl.Tree.val (x.fst.getD x_1 Pl.dC)).snd.snd.fst.fst.snd.snd.fst = x_2.fst.fst.snd.snd.fst.fst.snd.snd.fst ∧
 Is (terms (Pl.Tree.val (x.fst.getD x_1 Pl.dC)).snd.snd.fst.fst.snd.snd.snd) (terms x_2.fst.fst.snd.snd.fst.fst.snd.snd.snd) ∧
 Is (whys (Pl.Tree.val (x.fst.getD x_1 Pl.dC)).snd.snd.fst.snd) (whys x_2.fst.fst.snd.snd.fst.snd) ∧
 Is (ints (Pl.Tree.val (x.fst.getD x_1 Pl.dC)).snd.snd.snd.fst) (ints x_2.fst.fst.snd.snd.snd.fst) ∧
 (Pl.Tree.val (x.fst.getD x_1 Pl.dC)).snd.snd.snd.snd.fst.fst = x_2.fst.fst.snd.snd.snd.snd.fst.fst ∧
 Is (terms (Pl.Tree.val (x.fst.getD x_1 Pl.dC)).snd.snd.snd.snd.fst.snd) (terms x_2.fst.fst.snd.snd.snd.snd.fst.snd) ∧
 (Pl.Tree.val (x.fst.getD x_1 Pl.dC)).snd.snd.snd.snd.snd.fst = x_2.fst.fst.snd.snd.snd.snd.snd.fst ∧
 Is (terms (Pl.Tree.val (x.fst.getD x_1 Pl.dC)).snd.snd.snd.snd.snd.snd) (terms x_2.fst.fst.snd.snd.snd.snd.snd.snd) ∧
 Is (kidsC (x.fst.getD x_1 Pl.dC)) (cases x_2.fst.snd) ∧ True) ∧
 ((Pl.Tree.val (x.snd.getD x_1 Pl.dC)).fst = x_2.snd.fst.fst ∧
 (Pl.Tree.val (x.snd.getD x_1 Pl.dC)).snd.fst = x_2.snd.fst.snd.fst ∧
 (Pl.Tree.val (x.snd.getD x_1 Pl.dC)).snd.snd.fst.fst.fst = x_2.snd.fst.snd.snd.fst.fst.fst ∧
 (Pl.Tree.val (x.snd.getD x_1 Pl.dC)).snd.snd.fst.fst.snd.fst = x_2.snd.fst.snd.snd.fst.fst.snd.fst ∧
 (Pl.Tree.val (x.snd.getD x_1 Pl.dC)).snd.snd.fst.fst.snd.snd.fst = x_2.snd.fst.snd.snd.fst.fst.snd.snd.fst ∧
 Is (terms (Pl.Tree.val (x.snd.getD x_1 Pl.dC)).snd.snd.fst.fst.snd.snd.snd) (terms x_2.snd.fst.snd.snd.fst.fst.snd.snd.snd) ∧
 Is (whys (Pl.Tree.val (x.snd.getD x_1 Pl.dC)).snd.snd.fst.snd) (whys x_2.snd.fst.snd.snd.fst.snd) ∧
 Is (ints (Pl.Tree.val (x.snd.getD x_1 Pl.dC)).snd.snd.snd.fst) (ints x_2.snd.fst.snd.snd.snd.fst) ∧
 (Pl.Tree.val (x.snd.getD x_1 Pl.dC)).snd.snd.snd.snd.fst.fst = x_2.snd.fst.snd.snd.snd.snd.fst.fst ∧
 Is (terms (Pl.Tree.val (x.snd.getD x_1 Pl.dC)).snd.snd.snd.snd.fst.snd) (terms x_2.snd.fst.snd.snd.snd.snd.fst.snd) ∧
 (Pl.Tree.val (x.snd.getD x_1 Pl.dC)).snd.snd.snd.snd.snd.fst = x_2.snd.fst.snd.snd.snd.snd.snd.fst ∧
 Is (terms (Pl.Tree.val (x.snd.getD x_1 Pl.dC)).snd.snd.snd.snd.snd.snd) (terms x_2.snd.fst.snd.snd.snd.snd.snd.snd) ∧
 Is (kidsC (x.snd.getD x_1 Pl.dC)) (cases x_2.snd.snd) ∧ True) ∧
 True) ∧
 (SmTr Pl.costPC (Pl.Tree.mk x_2.fst.fst x_2.fst.snd) ∧ Pl.manyL x_2.fst.snd < n) ∧
 condP (!Decidable.decide (x_2.fst = x_2.snd)) (Bool.false = Decidable.decide (x.fst = x.snd))
 (Exists fun (x' : Nat) =>
 (x' ≤ x.fst.length ∧ x.fst.length = x.snd.length ∧ (x.fst = x.snd ↔ List.drop x' x.fst = List.drop x' x.snd)) ∧
 x.fst.length - x' < x.fst.length - x_1 ∧
 (Is (cases x.fst) (cases x.fst) ∧ Is (cases x.snd) (cases x.snd) ∧ IntKind.i64.wrap ((↑x_1 : Int) + (1 : Int)) = (↑x' : Int) ∧ True) ∧ True))
 (Bool.true = Decidable.decide (x.fst = x.snd)))) = Goal Try.prog [(K_eqCase_ n)] (A_eqCaseS x.1 x.2) (K_eqCaseS_ (n + 1)).1 (K_eqCaseS_ (n + 1)).2 (x) := by kernel_rfl

theorem vc_sCaseSame_ (n : Nat) (x : Pl.CP × Pl.CP) : (condP (x.fst.fst.fst != x.snd.fst.fst) (Bool.false = Decidable.decide (x.fst = x.snd))
 (condP (x.fst.fst.snd.fst != x.snd.fst.snd.fst) (Bool.false = Decidable.decide (x.fst = x.snd))
 (Exists fun (x_1 : Pl.WP × Pl.WP) =>
 ((x.fst.fst.snd.snd.fst.fst.fst = x_1.fst.fst.fst ∧
 x.fst.fst.snd.snd.fst.fst.snd.fst = x_1.fst.fst.snd.fst ∧
 x.fst.fst.snd.snd.fst.fst.snd.snd.fst = x_1.fst.fst.snd.snd.fst ∧
 Is (terms x.fst.fst.snd.snd.fst.fst.snd.snd.snd) (terms x_1.fst.fst.snd.snd.snd) ∧ Is (whys x.fst.fst.snd.snd.fst.snd) (whys x_1.fst.snd) ∧ True) ∧
 (x.snd.fst.snd.snd.fst.fst.fst = x_1.snd.fst.fst ∧
 x.snd.fst.snd.snd.fst.fst.snd.fst = x_1.snd.fst.snd.fst ∧
 x.snd.fst.snd.snd.fst.fst.snd.snd.fst = x_1.snd.fst.snd.snd.fst ∧
 Is (terms x.snd.fst.snd.snd.fst.fst.snd.snd.snd) (terms x_1.snd.fst.snd.snd.snd) ∧ Is (whys x.snd.fst.snd.snd.fst.snd) (whys x_1.snd.snd) ∧ True) ∧
 True) ∧
 SmTr Pl.costPW (Pl.Tree.mk x_1.fst.fst x_1.fst.snd) ∧
 condP (!Decidable.decide (x_1.fst = x_1.snd)) (Bool.false = Decidable.decide (x.fst = x.snd))
 (Exists fun (x_2 : List Int × List Int) =>
 (Is (ints x.fst.fst.snd.snd.snd.fst) (ints x_2.fst) ∧ Is (ints x.snd.fst.snd.snd.snd.fst) (ints x_2.snd) ∧ True) ∧
 Sz x_2.fst ∧
 condP (!Decidable.decide (x_2.fst = x_2.snd)) (Bool.false = Decidable.decide (x.fst = x.snd))
 (Exists fun (x_3 : Pl.TP × Pl.TP) =>
 ((x.fst.fst.snd.snd.snd.snd.fst.fst = x_3.fst.fst ∧ Is (terms x.fst.fst.snd.snd.snd.snd.fst.snd) (terms x_3.fst.snd) ∧ True) ∧
 (x.snd.fst.snd.snd.snd.snd.fst.fst = x_3.snd.fst ∧ Is (terms x.snd.fst.snd.snd.snd.snd.fst.snd) (terms x_3.snd.snd) ∧ True) ∧ True) ∧
 SmT (Pl.Tree.mk x_3.fst.fst x_3.fst.snd) ∧
 condP (!Decidable.decide (x_3.fst = x_3.snd)) (Bool.false = Decidable.decide (x.fst = x.snd))
 (Exists fun (x_4 : Pl.TP × Pl.TP) =>
 ((x.fst.fst.snd.snd.snd.snd.snd.fst = x_4.fst.fst ∧ Is (terms x.fst.fst.snd.snd.snd.snd.snd.snd) (terms x_4.fst.snd) ∧ True) ∧
 (x.snd.fst.snd.snd.snd.snd.snd.fst = x_4.snd.fst ∧ Is (terms x.snd.fst.snd.snd.snd.snd.snd.snd) (terms x_4.snd.snd) ∧ True) ∧ True) ∧
 SmT (Pl.Tree.mk x_4.fst.fst x_4.fst.snd) ∧
 condP (!Decidable.decide (x_4.fst = x_4.snd)) (Bool.false = Decidable.decide (x.fst = x.snd))
 (condP ((↑x.fst.snd.length : Int) != (↑x.snd.snd.length : Int)) (Bool.false = Decidable.decide (x.fst = x.snd))
 ((Exists fun (x_5 : Nat) =>
 (x_5 ≤ x.fst.snd.length ∧
 x.fst.snd.length = x.snd.snd.length ∧ x.fst.fst = x.snd.fst ∧ (x.fst.snd = x.snd.snd ↔ List.drop x_5 x.fst.snd = List.drop x_5 x.snd.snd)) ∧
 ((0 : Nat) = (0 : Nat) ∧ (0 : Nat) = (0 : Nat) ∧ (0 : Int) = (↑x_5 : Int) ∧ True) ∧
 (x.fst.fst.fst = x.fst.fst.fst ∧
 x.fst.fst.snd.fst = x.fst.fst.snd.fst ∧
 x.fst.fst.snd.snd.fst.fst.fst = x.fst.fst.snd.snd.fst.fst.fst ∧
 x.fst.fst.snd.snd.fst.fst.snd.fst = x.fst.fst.snd.snd.fst.fst.snd.fst ∧
 x.fst.fst.snd.snd.fst.fst.snd.snd.fst = x.fst.fst.snd.snd.fst.fst.snd.snd.fst ∧
 Is (terms x.fst.fst.snd.snd.fst.fst.snd.snd.snd) (terms x.fst.fst.snd.snd.fst.fst.snd.snd.snd) ∧
 Is (whys x.fst.fst.snd.snd.fst.snd) (whys x.fst.fst.snd.snd.fst.snd) ∧
 Is (ints x.fst.fst.snd.snd.snd.fst) (ints x.fst.fst.snd.snd.snd.fst) ∧
 x.fst.fst.snd.snd.snd.snd.fst.fst = x.fst.fst.snd.snd.snd.snd.fst.fst ∧
 Is (terms x.fst.fst.snd.snd.snd.snd.fst.snd) (terms x.fst.fst.snd.snd.snd.snd.fst.snd) ∧
 x.fst.fst.snd.snd.snd.snd.snd.fst = x.fst.fst.snd.snd.snd.snd.snd.fst ∧
 Is (terms x.fst.fst.snd.snd.snd.snd.snd.snd) (terms x.fst.fst.snd.snd.snd.snd.snd.snd) ∧
 Is (cases x.fst.snd) (cases x.fst.snd) ∧ True) ∧
 (x.snd.fst.fst = x.snd.fst.fst ∧
 x.snd.fst.snd.fst = x.snd.fst.snd.fst ∧
 x.snd.fst.snd.snd.fst.fst.fst = x.snd.fst.snd.snd.fst.fst.fst ∧
 x.snd.fst.snd.snd.fst.fst.snd.fst = x.snd.fst.snd.snd.fst.fst.snd.fst ∧
 x.snd.fst.snd.snd.fst.fst.snd.snd.fst = x.snd.fst.snd.snd.fst.fst.snd.snd.fst ∧
 Is (terms x.snd.fst.snd.snd.fst.fst.snd.snd.snd) (terms x.snd.fst.snd.snd.fst.fst.snd.snd.snd) ∧
 Is (whys x.snd.fst.snd.snd.fst.snd) (whys x.snd.fst.snd.snd.fst.snd) ∧
 Is (ints x.snd.fst.snd.snd.snd.fst) (ints x.snd.fst.snd.snd.snd.fst) ∧
 x.snd.fst.snd.snd.snd.snd.fst.fst = x.snd.fst.snd.snd.snd.snd.fst.fst ∧
 Is (terms x.snd.fst.snd.snd.snd.snd.fst.snd) (terms x.snd.fst.snd.snd.snd.snd.fst.snd) ∧
 x.snd.fst.snd.snd.snd.snd.snd.fst = x.snd.fst.snd.snd.snd.snd.snd.fst ∧
 Is (terms x.snd.fst.snd.snd.snd.snd.snd.snd) (terms x.snd.fst.snd.snd.snd.snd.snd.snd) ∧
 Is (cases x.snd.snd) (cases x.snd.snd) ∧ True) ∧
 True) ∧
 ∀ (x_5 : Nat),
 x_5 ≤ x.fst.snd.length ∧
 x.fst.snd.length = x.snd.snd.length ∧ x.fst.fst = x.snd.fst ∧ (x.fst.snd = x.snd.snd ↔ List.drop x_5 x.fst.snd = List.drop x_5 x.snd.snd) →
 condP (Decidable.decide ((↑x_5 : Int) < (↑x.fst.snd.length : Int)))
 (((0 : Int) ≤ (↑x_5 : Int) ∧ (↑x_5 : Int) < (↑x.fst.snd.length : Int)) ∧
 x_5 < x.fst.snd.length ∧
 ((0 : Int) ≤ (↑x_5 : Int) ∧ (↑x_5 : Int) < (↑x.snd.snd.length : Int)) ∧
 x_5 < x.snd.snd.length ∧
 Exists fun (x_6 : Pl.CP × Pl.CP) =>
 (((Pl.Tree.val (x.fst.snd.getD x_5 Pl.dC)).fst = x_6.fst.fst.fst ∧
 (Pl.Tree.val (x.fst.snd.getD x_5 Pl.dC)).snd.fst = x_6.fst.fst.snd.fst ∧
 (Pl.Tree.val (x.fst.snd.getD x_5 Pl.dC)).snd.snd.fst.fst.fst = x_6.fst.fst.snd.snd.fst.fst.fst ∧
 (Pl.Tree.val (x.fst.snd.getD x_5 Pl.dC)).snd.snd.fst.fst.snd.fst = x_6.fst.fst.snd.snd.fst.fst.snd.fst ∧
 (Pl.Tree.val (x.fst.snd.getD x_5 Pl.dC)).snd.snd.fst.fst.snd.snd.fst = x_6.fst.fst.snd.snd.fst.fst.snd.snd.fst ∧
 Is (terms (Pl.Tree.val (x.fst.snd.getD x_5 Pl.dC)).snd.snd.fst.fst.snd.snd.snd)
 (terms x_6.fst.fst.snd.snd.fst.fst.snd.snd.snd) ∧
 Is (whys (Pl.Tree.val (x.fst.snd.getD x_5 Pl.dC)).snd.snd.fst.snd) (whys x_6.fst.fst.snd.snd.fst.snd) ∧
 Is (ints (Pl.Tree.val (x.fst.snd.getD x_5 Pl.dC)).snd.snd.snd.fst) (ints x_6.fst.fst.snd.snd.snd.fst) ∧
 (Pl.Tree.val (x.fst.snd.getD x_5 Pl.dC)).snd.snd.snd.snd.fst.fst = x_6.fst.fst.snd.snd.snd.snd.fst.fst ∧
 Is (terms (Pl.Tree.val (x.fst.snd.getD x_5 Pl.dC)).snd.snd.snd.snd.fst.snd)
 (terms x_6.fst.fst.snd.snd.snd.snd.fst.snd) ∧
 (Pl.Tree.val (x.fst.snd.getD x_5 Pl.dC)).snd.snd.snd.snd.snd.fst = x_6.fst.fst.snd.snd.snd.snd.snd.fst ∧
 Is (terms (Pl.Tree.val (x.fst.snd.getD x_5 Pl.dC)).snd.snd.snd.snd.snd.snd)
 (terms x_6.fst.fst.snd.snd.snd.snd.snd.snd) ∧
 Is (kidsC (x.fst.snd.getD x_5 Pl.dC)) (cases x_6.fst.snd) ∧ True) ∧
 ((Pl.Tree.val (x.snd.snd.getD x_5 Pl.dC)).fst = x_6.snd.fst.fst ∧
 (Pl.Tree.val (x.snd.snd.getD x_5 Pl.dC)).snd.fst = x_6.snd.fst.snd.fst ∧
 (Pl.Tree.val (x.snd.snd.getD x_5 Pl.dC)).snd.snd.fst.fst.fst = x_6.snd.fst.snd.snd.fst.fst.fst ∧
 (Pl.Tree.val (x.snd.snd.getD x_5 Pl.dC)).snd.snd.fst.fst.snd.fst = x_6.snd.fst.snd.snd.fst.fst.snd.fst ∧
 (Pl.Tree.val (x.snd.snd.getD x_5 Pl.dC)).snd.snd.fst.fst.snd.snd.fst = x_6.snd.fst.snd.snd.fst.fst.snd.snd.fst ∧
 Is (terms (Pl.Tree.val (x.snd.snd.getD x_5 Pl.dC)).snd.snd.fst.fst.snd.snd.snd)
 (terms x_6.snd.fst.snd.snd.fst.fst.snd.snd.snd) ∧
 Is (whys (Pl.Tree.val (x.snd.snd.getD x_5 Pl.dC)).snd.snd.fst.snd) (whys x_6.snd.fst.snd.snd.fst.snd) ∧
 Is (ints (Pl.Tree.val (x.snd.snd.getD x_5 Pl.dC)).snd.snd.snd.fst) (ints x_6.snd.fst.snd.snd.snd.fst) ∧
 (Pl.Tree.val (x.snd.snd.getD x_5 Pl.dC)).snd.snd.snd.snd.fst.fst = x_6.snd.fst.snd.snd.snd.snd.fst.fst ∧
 Is (terms (Pl.Tree.val (x.snd.snd.getD x_5 Pl.dC)).snd.snd.snd.snd.fst.snd)
 (terms x_6.snd.fst.snd.snd.snd.snd.fst.snd) ∧
 (Pl.Tree.val (x.snd.snd.getD x_5 Pl.dC)).snd.snd.snd.snd.snd.fst = x_6.snd.fst.snd.snd.snd.snd.snd.fst ∧
 Is (terms (Pl.Tree.val (x.snd.snd.getD x_5 Pl.dC)).snd.snd.snd.snd.snd.snd)
 (terms x_6.snd.fst.snd.snd.snd.snd.snd.snd) ∧
 Is (kidsC (x.snd.snd.getD x_5 Pl.dC)) (cases x_6.snd.snd) ∧ True) ∧
 True) ∧
 (SmTr Pl.costPC (Pl.Tree.mk x_6.fst.fst x_6.fst.snd) ∧ Pl.manyL x_6.fst.snd < n) ∧
 condP (!Decidable.decide (x_6.fst = x_6.snd)) (Bool.false = Decidable.decide (x.fst = x.snd))
 (Exists fun (x' : Nat) =>
 (x' ≤ x.fst.snd.length ∧
 x.fst.snd.length = x.snd.snd.length ∧
 x.fst.fst = x.snd.fst ∧ (x.fst.snd = x.snd.snd ↔ List.drop x' x.fst.snd = List.drop x' x.snd.snd)) ∧
 x.fst.snd.length - x' < x.fst.snd.length - x_5 ∧
 ((0 : Nat) = (0 : Nat) ∧ (0 : Nat) = (0 : Nat) ∧ IntKind.i64.wrap ((↑x_5 : Int) + (1 : Int)) = (↑x' : Int) ∧ True) ∧
 (x.fst.fst.fst = x.fst.fst.fst ∧
 x.fst.fst.snd.fst = x.fst.fst.snd.fst ∧
 x.fst.fst.snd.snd.fst.fst.fst = x.fst.fst.snd.snd.fst.fst.fst ∧
 x.fst.fst.snd.snd.fst.fst.snd.fst = x.fst.fst.snd.snd.fst.fst.snd.fst ∧
 x.fst.fst.snd.snd.fst.fst.snd.snd.fst = x.fst.fst.snd.snd.fst.fst.snd.snd.fst ∧
 Is (terms x.fst.fst.snd.snd.fst.fst.snd.snd.snd) (terms x.fst.fst.snd.snd.fst.fst.snd.snd.snd) ∧
 Is (whys x.fst.fst.snd.snd.fst.snd) (whys x.fst.fst.snd.snd.fst.snd) ∧
 Is (ints x.fst.fst.snd.snd.snd.fst) (ints x.fst.fst.snd.snd.snd.fst) ∧
 x.fst.fst.snd.snd.snd.snd.fst.fst = x.fst.fst.snd.snd.snd.snd.fst.fst ∧
 Is (terms x.fst.fst.snd.snd.snd.snd.fst.snd) (terms x.fst.fst.snd.snd.snd.snd.fst.snd) ∧
 x.fst.fst.snd.snd.snd.snd.snd.fst = x.fst.fst.snd.snd.snd.snd.snd.fst ∧
 Is (terms x.fst.fst.snd.snd.snd.snd.snd.snd) (terms x.fst.fst.snd.snd.snd.snd.snd.snd) ∧
 Is (cases x.fst.snd) (cases x.fst.snd) ∧ True) ∧
 (x.snd.fst.fst = x.snd.fst.fst ∧
 x.snd.fst.snd.fst = x.snd.fst.snd.fst ∧
 x.snd.fst.snd.snd.fst.fst.fst = x.snd.fst.snd.snd.fst.fst.fst ∧
 x.snd.fst.snd.snd.fst.fst.snd.fst = x.snd.fst.snd.snd.fst.fst.snd.fst ∧
 x.snd.fst.snd.snd.fst.fst.snd.snd.fst = x.snd.fst.snd.snd.fst.fst.snd.snd.fst ∧
 Is (terms x.snd.fst.snd.snd.fst.fst.snd.snd.snd) (terms x.snd.fst.snd.snd.fst.fst.snd.snd.snd) ∧
 Is (whys x.snd.fst.snd.snd.fst.snd) (whys x.snd.fst.snd.snd.fst.snd) ∧
 Is (ints x.snd.fst.snd.snd.snd.fst) (ints x.snd.fst.snd.snd.snd.fst) ∧
 x.snd.fst.snd.snd.snd.snd.fst.fst = x.snd.fst.snd.snd.snd.snd.fst.fst ∧
 Is (terms x.snd.fst.snd.snd.snd.snd.fst.snd) (terms x.snd.fst.snd.snd.snd.snd.fst.snd) ∧
 x.snd.fst.snd.snd.snd.snd.snd.fst = x.snd.fst.snd.snd.snd.snd.snd.fst ∧
 Is (terms x.snd.fst.snd.snd.snd.snd.snd.snd) (terms x.snd.fst.snd.snd.snd.snd.snd.snd) ∧
 Is (cases x.snd.snd) (cases x.snd.snd) ∧ True) ∧
 True))
 (Bool.true = Decidable.decide (x.fst = x.snd)))))))))) = Goal Try.prog [K_sWhySame, K_l5Ints, K_sTermSame, (K_sCaseSame_ n)] (A_sCaseSame x.1 x.2) (K_sCaseSame_ (n + 1)).1 (K_sCaseSame_ (n + 1)).2 (x) := by kernel_rfl

theorem vc_iCaseSame_ (n : Nat) (x : Pl.CP × Pl.CP) : (condP (x.fst.fst.fst == x.snd.fst.fst)
 (condP (x.fst.fst.snd.fst == x.snd.fst.snd.fst)
 (Exists fun (x_1 : Pl.WP × Pl.WP) =>
 ((x.fst.fst.snd.snd.fst.fst.fst = x_1.fst.fst.fst ∧
 x.fst.fst.snd.snd.fst.fst.snd.fst = x_1.fst.fst.snd.fst ∧
 x.fst.fst.snd.snd.fst.fst.snd.snd.fst = x_1.fst.fst.snd.snd.fst ∧
 Is (terms x.fst.fst.snd.snd.fst.fst.snd.snd.snd) (terms x_1.fst.fst.snd.snd.snd) ∧ Is (whys x.fst.fst.snd.snd.fst.snd) (whys x_1.fst.snd) ∧ True) ∧
 (x.snd.fst.snd.snd.fst.fst.fst = x_1.snd.fst.fst ∧
 x.snd.fst.snd.snd.fst.fst.snd.fst = x_1.snd.fst.snd.fst ∧
 x.snd.fst.snd.snd.fst.fst.snd.snd.fst = x_1.snd.fst.snd.snd.fst ∧
 Is (terms x.snd.fst.snd.snd.fst.fst.snd.snd.snd) (terms x_1.snd.fst.snd.snd.snd) ∧ Is (whys x.snd.fst.snd.snd.fst.snd) (whys x_1.snd.snd) ∧ True) ∧
 True) ∧
 SmTr Pl.costPW (Pl.Tree.mk x_1.fst.fst x_1.fst.snd) ∧
 condP (Decidable.decide (x_1.fst = x_1.snd))
 (Exists fun (x_2 : List Int × List Int) =>
 (Is (ints x.fst.fst.snd.snd.snd.fst) (ints x_2.fst) ∧ Is (ints x.snd.fst.snd.snd.snd.fst) (ints x_2.snd) ∧ True) ∧
 Sz x_2.fst ∧
 condP (Decidable.decide (x_2.fst = x_2.snd))
 (Exists fun (x_3 : Pl.TP × Pl.TP) =>
 ((x.fst.fst.snd.snd.snd.snd.fst.fst = x_3.fst.fst ∧ Is (terms x.fst.fst.snd.snd.snd.snd.fst.snd) (terms x_3.fst.snd) ∧ True) ∧
 (x.snd.fst.snd.snd.snd.snd.fst.fst = x_3.snd.fst ∧ Is (terms x.snd.fst.snd.snd.snd.snd.fst.snd) (terms x_3.snd.snd) ∧ True) ∧ True) ∧
 SmT (Pl.Tree.mk x_3.fst.fst x_3.fst.snd) ∧
 condP (Decidable.decide (x_3.fst = x_3.snd))
 (Exists fun (x_4 : Pl.TP × Pl.TP) =>
 ((x.fst.fst.snd.snd.snd.snd.snd.fst = x_4.fst.fst ∧ Is (terms x.fst.fst.snd.snd.snd.snd.snd.snd) (terms x_4.fst.snd) ∧ True) ∧
 (x.snd.fst.snd.snd.snd.snd.snd.fst = x_4.snd.fst ∧ Is (terms x.snd.fst.snd.snd.snd.snd.snd.snd) (terms x_4.snd.snd) ∧ True) ∧ True) ∧
 SmT (Pl.Tree.mk x_4.fst.fst x_4.fst.snd) ∧
 condP (Decidable.decide (x_4.fst = x_4.snd))
 (Exists fun (x_5 : List Pl.Cse × List Pl.Cse) =>
 (Is (cases x.fst.snd) (cases x_5.fst) ∧ Is (cases x.snd.snd) (cases x_5.snd) ∧ True ∧ True) ∧
 (SmTrs Pl.costPC x_5.fst ∧ Pl.manyL x_5.fst < n) ∧ Decidable.decide (x_5.fst = x_5.snd) = Decidable.decide (x.fst = x.snd))
 (Bool.false = Decidable.decide (x.fst = x.snd)))
 (Bool.false = Decidable.decide (x.fst = x.snd)))
 (Bool.false = Decidable.decide (x.fst = x.snd)))
 (Bool.false = Decidable.decide (x.fst = x.snd)))
 (Bool.false = Decidable.decide (x.fst = x.snd)))
 (Bool.false = Decidable.decide (x.fst = x.snd))) = Goal Try.prog [K_iWhySame, K_slEqual, K_iTermSame, (K_EqualCase_ n)] ([]) (K_iCaseSame_ n).1 (K_iCaseSame_ n).2 (x) := by kernel_rfl

theorem vc_EqualCase_ (n : Nat) (x : List Pl.Cse × List Pl.Cse) : (condP ((↑x.fst.length : Int) != (↑x.snd.length : Int)) (Bool.false = Decidable.decide (x.fst = x.snd))
 ((Exists fun (x_1 : Nat) =>
 (x_1 ≤ x.fst.length ∧ x.fst.length = x.snd.length ∧ (x.fst = x.snd ↔ List.drop x_1 x.fst = List.drop x_1 x.snd)) ∧
 (Is (cases x.fst) (cases x.fst) ∧
 Is (cases x.snd) (cases x.snd) ∧ True ∧ Is (cases x.fst) (cases x.fst) ∧ (↑x.fst.length : Int) = (↑x.fst.length : Int) ∧ (0 : Int) = (↑x_1 : Int) ∧ True) ∧
 True) ∧
 ∀ (x_1 : Nat),
 x_1 ≤ x.fst.length ∧ x.fst.length = x.snd.length ∧ (x.fst = x.snd ↔ List.drop x_1 x.fst = List.drop x_1 x.snd) →
 condP (Decidable.decide ((↑x_1 : Int) < (↑x.fst.length : Int)))
 (((0 : Int) ≤ (↑x_1 : Int) ∧ (↑x_1 : Int) < (↑x.fst.length : Int)) ∧
 x_1 < x.fst.length ∧
 ((0 : Int) ≤ (↑x_1 : Int) ∧ (↑x_1 : Int) < (↑x.snd.length : Int)) ∧
 x_1 < x.snd.length ∧
 Exists fun (x_2 : Pl.CP × Pl.CP) =>
 (((Pl.Tree.val (x.fst.getD x_1 Pl.dC)).fst = x_2.fst.fst.fst ∧
 (Pl.Tree.val (x.fst.getD x_1 Pl.dC)).snd.fst = x_2.fst.fst.snd.fst ∧
 (Pl.Tree.val (x.fst.getD x_1 Pl.dC)).snd.snd.fst.fst.fst = x_2.fst.fst.snd.snd.fst.fst.fst ∧
 (Pl.Tree.val (x.fst.getD x_1 Pl.dC)).snd.snd.fst.fst.snd.fst = x_2.fst.fst.snd.snd.fst.fst.snd.fst ∧
 (Pl.Tree.val (x.fst.getD x_1 Pl.dC)).snd.snd.fst.fst.snd.snd.fst = x_2.fst.fst.snd.snd.fst.fst.snd.snd.fst ∧
 Is (terms (Pl.Tree.val (x.fst.getD x_1 Pl.dC)).snd.snd.fst.fst.snd.snd.snd) (terms x_2.fst.fst.snd.snd.fst.fst.snd.snd.snd) ∧
 Is (whys (Pl.Tree.val (x.fst.getD x_1 Pl.dC)).snd.snd.fst.snd) (whys x_2.fst.fst.snd.snd.fst.snd) ∧
 Is (ints (Pl.Tree.val (x.fst.getD x_1 Pl.dC)).snd.snd.snd.fst) (ints x_2.fst.fst.snd.snd.snd.fst) ∧
 (Pl.Tree.val (x.fst.getD x_1 Pl.dC)).snd.snd.snd.snd.fst.fst = x_2.fst.fst.snd.snd.snd.snd.fst.fst ∧
 Is (terms (Pl.Tree.val (x.fst.getD x_1 Pl.dC)).snd.snd.snd.snd.fst.snd) (terms x_2.fst.fst.snd.snd.snd.snd.fst.snd) ∧
 (Pl.Tree.val (x.fst.getD x_1 Pl.dC)).snd.snd.snd.snd.snd.fst = x_2.fst.fst.snd.snd.snd.snd.snd.fst ∧
 Is (terms (Pl.Tree.val (x.fst.getD x_1 Pl.dC)).snd.snd.snd.snd.snd.snd) (terms x_2.fst.fst.snd.snd.snd.snd.snd.snd) ∧
 Is (kidsC (x.fst.getD x_1 Pl.dC)) (cases x_2.fst.snd) ∧ True) ∧
 ((Pl.Tree.val (x.snd.getD x_1 Pl.dC)).fst = x_2.snd.fst.fst ∧
 (Pl.Tree.val (x.snd.getD x_1 Pl.dC)).snd.fst = x_2.snd.fst.snd.fst ∧
 (Pl.Tree.val (x.snd.getD x_1 Pl.dC)).snd.snd.fst.fst.fst = x_2.snd.fst.snd.snd.fst.fst.fst ∧
 (Pl.Tree.val (x.snd.getD x_1 Pl.dC)).snd.snd.fst.fst.snd.fst = x_2.snd.fst.snd.snd.fst.fst.snd.fst ∧
 (Pl.Tree.val (x.snd.getD x_1 Pl.dC)).snd.snd.fst.fst.snd.snd.fst = x_2.snd.fst.snd.snd.fst.fst.snd.snd.fst ∧
 Is (terms (Pl.Tree.val (x.snd.getD x_1 Pl.dC)).snd.snd.fst.fst.snd.snd.snd) (terms x_2.snd.fst.snd.snd.fst.fst.snd.snd.snd) ∧
 Is (whys (Pl.Tree.val (x.snd.getD x_1 Pl.dC)).snd.snd.fst.snd) (whys x_2.snd.fst.snd.snd.fst.snd) ∧
 Is (ints (Pl.Tree.val (x.snd.getD x_1 Pl.dC)).snd.snd.snd.fst) (ints x_2.snd.fst.snd.snd.snd.fst) ∧
 (Pl.Tree.val (x.snd.getD x_1 Pl.dC)).snd.snd.snd.snd.fst.fst = x_2.snd.fst.snd.snd.snd.snd.fst.fst ∧
 Is (terms (Pl.Tree.val (x.snd.getD x_1 Pl.dC)).snd.snd.snd.snd.fst.snd) (terms x_2.snd.fst.snd.snd.snd.snd.fst.snd) ∧
 (Pl.Tree.val (x.snd.getD x_1 Pl.dC)).snd.snd.snd.snd.snd.fst = x_2.snd.fst.snd.snd.snd.snd.snd.fst ∧
 Is (terms (Pl.Tree.val (x.snd.getD x_1 Pl.dC)).snd.snd.snd.snd.snd.snd) (terms x_2.snd.fst.snd.snd.snd.snd.snd.snd) ∧
 Is (kidsC (x.snd.getD x_1 Pl.dC)) (cases x_2.snd.snd) ∧ True) ∧
 True) ∧
 (SmTr Pl.costPC (Pl.Tree.mk x_2.fst.fst x_2.fst.snd) ∧ Pl.manyL x_2.fst.snd < n) ∧
 condP (!Decidable.decide (x_2.fst = x_2.snd)) (Bool.false = Decidable.decide (x.fst = x.snd))
 (Exists fun (x' : Nat) =>
 (x' ≤ x.fst.length ∧ x.fst.length = x.snd.length ∧ (x.fst = x.snd ↔ List.drop x' x.fst = List.drop x' x.snd)) ∧
 x.fst.length - x' < x.fst.length - x_1 ∧
 (Is (cases x.fst) (cases x.fst) ∧
 Is (cases x.snd) (cases x.snd) ∧
 True ∧
 Is (cases x.fst) (cases x.fst) ∧ (↑x.fst.length : Int) = (↑x.fst.length : Int) ∧ IntKind.i64.wrap ((↑x_1 : Int) + (1 : Int)) = (↑x' : Int) ∧ True) ∧
 True))
 (Bool.true = Decidable.decide (x.fst = x.snd)))) = Goal Try.prog [(K_iCaseSame_ n)] (A_EqualCase x.1 x.2) (K_EqualCase_ (n + 1)).1 (K_EqualCase_ (n + 1)).2 (x) := by kernel_rfl

theorem vc_xCaseSame (x : Pl.CP × Pl.CP) : (Exists fun (x_1 : Pl.CP × Int) =>
 ((x.fst.fst.fst = x_1.fst.fst.fst ∧
 x.fst.fst.snd.fst = x_1.fst.fst.snd.fst ∧
 x.fst.fst.snd.snd.fst.fst.fst = x_1.fst.fst.snd.snd.fst.fst.fst ∧
 x.fst.fst.snd.snd.fst.fst.snd.fst = x_1.fst.fst.snd.snd.fst.fst.snd.fst ∧
 x.fst.fst.snd.snd.fst.fst.snd.snd.fst = x_1.fst.fst.snd.snd.fst.fst.snd.snd.fst ∧
 Is (terms x.fst.fst.snd.snd.fst.fst.snd.snd.snd) (terms x_1.fst.fst.snd.snd.fst.fst.snd.snd.snd) ∧
 Is (whys x.fst.fst.snd.snd.fst.snd) (whys x_1.fst.fst.snd.snd.fst.snd) ∧
 Is (ints x.fst.fst.snd.snd.snd.fst) (ints x_1.fst.fst.snd.snd.snd.fst) ∧
 x.fst.fst.snd.snd.snd.snd.fst.fst = x_1.fst.fst.snd.snd.snd.snd.fst.fst ∧
 Is (terms x.fst.fst.snd.snd.snd.snd.fst.snd) (terms x_1.fst.fst.snd.snd.snd.snd.fst.snd) ∧
 x.fst.fst.snd.snd.snd.snd.snd.fst = x_1.fst.fst.snd.snd.snd.snd.snd.fst ∧
 Is (terms x.fst.fst.snd.snd.snd.snd.snd.snd) (terms x_1.fst.fst.snd.snd.snd.snd.snd.snd) ∧ Is (cases x.fst.snd) (cases x_1.fst.snd) ∧ True) ∧
 (1048576 : Int) = x_1.snd ∧ True) ∧
 (MlC (Pl.Tree.mk x_1.fst.fst x_1.fst.snd) ∧ Fu x_1.snd) ∧
 condP (Decidable.decide (Pl.lim (x_1.snd - (↑(Pl.costTr Pl.costPC (Pl.Tree.mk x_1.fst.fst x_1.fst.snd)) : Int)) < (0 : Int))) (Bool.true = Bool.true)
 (Exists fun (x_2 : Pl.CP × Int) =>
 ((x.snd.fst.fst = x_2.fst.fst.fst ∧
 x.snd.fst.snd.fst = x_2.fst.fst.snd.fst ∧
 x.snd.fst.snd.snd.fst.fst.fst = x_2.fst.fst.snd.snd.fst.fst.fst ∧
 x.snd.fst.snd.snd.fst.fst.snd.fst = x_2.fst.fst.snd.snd.fst.fst.snd.fst ∧
 x.snd.fst.snd.snd.fst.fst.snd.snd.fst = x_2.fst.fst.snd.snd.fst.fst.snd.snd.fst ∧
 Is (terms x.snd.fst.snd.snd.fst.fst.snd.snd.snd) (terms x_2.fst.fst.snd.snd.fst.fst.snd.snd.snd) ∧
 Is (whys x.snd.fst.snd.snd.fst.snd) (whys x_2.fst.fst.snd.snd.fst.snd) ∧
 Is (ints x.snd.fst.snd.snd.snd.fst) (ints x_2.fst.fst.snd.snd.snd.fst) ∧
 x.snd.fst.snd.snd.snd.snd.fst.fst = x_2.fst.fst.snd.snd.snd.snd.fst.fst ∧
 Is (terms x.snd.fst.snd.snd.snd.snd.fst.snd) (terms x_2.fst.fst.snd.snd.snd.snd.fst.snd) ∧
 x.snd.fst.snd.snd.snd.snd.snd.fst = x_2.fst.fst.snd.snd.snd.snd.snd.fst ∧
 Is (terms x.snd.fst.snd.snd.snd.snd.snd.snd) (terms x_2.fst.fst.snd.snd.snd.snd.snd.snd) ∧ Is (cases x.snd.snd) (cases x_2.fst.snd) ∧ True) ∧
 Pl.lim (x_1.snd - (↑(Pl.costTr Pl.costPC (Pl.Tree.mk x_1.fst.fst x_1.fst.snd)) : Int)) = x_2.snd ∧ True) ∧
 (MlC (Pl.Tree.mk x_2.fst.fst x_2.fst.snd) ∧ Fu x_2.snd) ∧
 condP (Decidable.decide (Pl.lim (x_2.snd - (↑(Pl.costTr Pl.costPC (Pl.Tree.mk x_2.fst.fst x_2.fst.snd)) : Int)) < (0 : Int))) (Bool.true = Bool.true)
 (Exists fun (x_3 : Pl.CP) =>
 ((x.fst.fst.fst = x_3.fst.fst ∧
 x.fst.fst.snd.fst = x_3.fst.snd.fst ∧
 x.fst.fst.snd.snd.fst.fst.fst = x_3.fst.snd.snd.fst.fst.fst ∧
 x.fst.fst.snd.snd.fst.fst.snd.fst = x_3.fst.snd.snd.fst.fst.snd.fst ∧
 x.fst.fst.snd.snd.fst.fst.snd.snd.fst = x_3.fst.snd.snd.fst.fst.snd.snd.fst ∧
 Is (terms x.fst.fst.snd.snd.fst.fst.snd.snd.snd) (terms x_3.fst.snd.snd.fst.fst.snd.snd.snd) ∧
 Is (whys x.fst.fst.snd.snd.fst.snd) (whys x_3.fst.snd.snd.fst.snd) ∧
 Is (ints x.fst.fst.snd.snd.snd.fst) (ints x_3.fst.snd.snd.snd.fst) ∧
 x.fst.fst.snd.snd.snd.snd.fst.fst = x_3.fst.snd.snd.snd.snd.fst.fst ∧
 Is (terms x.fst.fst.snd.snd.snd.snd.fst.snd) (terms x_3.fst.snd.snd.snd.snd.fst.snd) ∧
 x.fst.fst.snd.snd.snd.snd.snd.fst = x_3.fst.snd.snd.snd.snd.snd.fst ∧
 Is (terms x.fst.fst.snd.snd.snd.snd.snd.snd) (terms x_3.fst.snd.snd.snd.snd.snd.snd) ∧ Is (cases x.fst.snd) (cases x_3.snd) ∧ True) ∧
 True) ∧
 SmTr Pl.costPC (Pl.Tree.mk x_3.fst x_3.snd) ∧
 Exists fun (x_4 : Pl.CP) =>
 ((x.snd.fst.fst = x_4.fst.fst ∧
 x.snd.fst.snd.fst = x_4.fst.snd.fst ∧
 x.snd.fst.snd.snd.fst.fst.fst = x_4.fst.snd.snd.fst.fst.fst ∧
 x.snd.fst.snd.snd.fst.fst.snd.fst = x_4.fst.snd.snd.fst.fst.snd.fst ∧
 x.snd.fst.snd.snd.fst.fst.snd.snd.fst = x_4.fst.snd.snd.fst.fst.snd.snd.fst ∧
 Is (terms x.snd.fst.snd.snd.fst.fst.snd.snd.snd) (terms x_4.fst.snd.snd.fst.fst.snd.snd.snd) ∧
 Is (whys x.snd.fst.snd.snd.fst.snd) (whys x_4.fst.snd.snd.fst.snd) ∧
 Is (ints x.snd.fst.snd.snd.snd.fst) (ints x_4.fst.snd.snd.snd.fst) ∧
 x.snd.fst.snd.snd.snd.snd.fst.fst = x_4.fst.snd.snd.snd.snd.fst.fst ∧
 Is (terms x.snd.fst.snd.snd.snd.snd.fst.snd) (terms x_4.fst.snd.snd.snd.snd.fst.snd) ∧
 x.snd.fst.snd.snd.snd.snd.snd.fst = x_4.fst.snd.snd.snd.snd.snd.fst ∧
 Is (terms x.snd.fst.snd.snd.snd.snd.snd.snd) (terms x_4.fst.snd.snd.snd.snd.snd.snd) ∧
 Is (cases x.snd.snd) (cases x_4.snd) ∧ True) ∧
 True) ∧
 SmTr Pl.costPC (Pl.Tree.mk x_4.fst x_4.snd) ∧
 Exists fun (x_5 : Pl.CP × Pl.CP) =>
 ((x_3.fst.fst = x_5.fst.fst.fst ∧
 x_3.fst.snd.fst = x_5.fst.fst.snd.fst ∧
 x_3.fst.snd.snd.fst.fst.fst = x_5.fst.fst.snd.snd.fst.fst.fst ∧
 x_3.fst.snd.snd.fst.fst.snd.fst = x_5.fst.fst.snd.snd.fst.fst.snd.fst ∧
 x_3.fst.snd.snd.fst.fst.snd.snd.fst = x_5.fst.fst.snd.snd.fst.fst.snd.snd.fst ∧
 Is (terms x_3.fst.snd.snd.fst.fst.snd.snd.snd) (terms x_5.fst.fst.snd.snd.fst.fst.snd.snd.snd) ∧
 Is (whys x_3.fst.snd.snd.fst.snd) (whys x_5.fst.fst.snd.snd.fst.snd) ∧
 Is (ints x_3.fst.snd.snd.snd.fst) (ints x_5.fst.fst.snd.snd.snd.fst) ∧
 x_3.fst.snd.snd.snd.snd.fst.fst = x_5.fst.fst.snd.snd.snd.snd.fst.fst ∧
 Is (terms x_3.fst.snd.snd.snd.snd.fst.snd) (terms x_5.fst.fst.snd.snd.snd.snd.fst.snd) ∧
 x_3.fst.snd.snd.snd.snd.snd.fst = x_5.fst.fst.snd.snd.snd.snd.snd.fst ∧
 Is (terms x_3.fst.snd.snd.snd.snd.snd.snd) (terms x_5.fst.fst.snd.snd.snd.snd.snd.snd) ∧
 Is (cases x_3.snd) (cases x_5.fst.snd) ∧ True) ∧
 (x_4.fst.fst = x_5.snd.fst.fst ∧
 x_4.fst.snd.fst = x_5.snd.fst.snd.fst ∧
 x_4.fst.snd.snd.fst.fst.fst = x_5.snd.fst.snd.snd.fst.fst.fst ∧
 x_4.fst.snd.snd.fst.fst.snd.fst = x_5.snd.fst.snd.snd.fst.fst.snd.fst ∧
 x_4.fst.snd.snd.fst.fst.snd.snd.fst = x_5.snd.fst.snd.snd.fst.fst.snd.snd.fst ∧
 Is (terms x_4.fst.snd.snd.fst.fst.snd.snd.snd) (terms x_5.snd.fst.snd.snd.fst.fst.snd.snd.snd) ∧
 Is (whys x_4.fst.snd.snd.fst.snd) (whys x_5.snd.fst.snd.snd.fst.snd) ∧
 Is (ints x_4.fst.snd.snd.snd.fst) (ints x_5.snd.fst.snd.snd.snd.fst) ∧
 x_4.fst.snd.snd.snd.snd.fst.fst = x_5.snd.fst.snd.snd.snd.snd.fst.fst ∧
 Is (terms x_4.fst.snd.snd.snd.snd.fst.snd) (terms x_5.snd.fst.snd.snd.snd.snd.fst.snd) ∧
 x_4.fst.snd.snd.snd.snd.snd.fst = x_5.snd.fst.snd.snd.snd.snd.snd.fst ∧
 Is (terms x_4.fst.snd.snd.snd.snd.snd.snd) (terms x_5.snd.fst.snd.snd.snd.snd.snd.snd) ∧
 Is (cases x_4.snd) (cases x_5.snd.snd) ∧ True) ∧
 True) ∧
 SmTr Pl.costPC (Pl.Tree.mk x_5.fst.fst x_5.fst.snd) ∧
 Exists fun (x_6 : Pl.CP) =>
 ((x.fst.fst.fst = x_6.fst.fst ∧
 x.fst.fst.snd.fst = x_6.fst.snd.fst ∧
 x.fst.fst.snd.snd.fst.fst.fst = x_6.fst.snd.snd.fst.fst.fst ∧
 x.fst.fst.snd.snd.fst.fst.snd.fst = x_6.fst.snd.snd.fst.fst.snd.fst ∧
 x.fst.fst.snd.snd.fst.fst.snd.snd.fst = x_6.fst.snd.snd.fst.fst.snd.snd.fst ∧
 Is (terms x.fst.fst.snd.snd.fst.fst.snd.snd.snd) (terms x_6.fst.snd.snd.fst.fst.snd.snd.snd) ∧
 Is (whys x.fst.fst.snd.snd.fst.snd) (whys x_6.fst.snd.snd.fst.snd) ∧
 Is (ints x.fst.fst.snd.snd.snd.fst) (ints x_6.fst.snd.snd.snd.fst) ∧
 x.fst.fst.snd.snd.snd.snd.fst.fst = x_6.fst.snd.snd.snd.snd.fst.fst ∧
 Is (terms x.fst.fst.snd.snd.snd.snd.fst.snd) (terms x_6.fst.snd.snd.snd.snd.fst.snd) ∧
 x.fst.fst.snd.snd.snd.snd.snd.fst = x_6.fst.snd.snd.snd.snd.snd.fst ∧
 Is (terms x.fst.fst.snd.snd.snd.snd.snd.snd) (terms x_6.fst.snd.snd.snd.snd.snd.snd) ∧
 Is (cases x.fst.snd) (cases x_6.snd) ∧ True) ∧
 True) ∧
 SmTr Pl.costPC (Pl.Tree.mk x_6.fst x_6.snd) ∧
 Exists fun (x_7 : Pl.CP) =>
 ((x.snd.fst.fst = x_7.fst.fst ∧
 x.snd.fst.snd.fst = x_7.fst.snd.fst ∧
 x.snd.fst.snd.snd.fst.fst.fst = x_7.fst.snd.snd.fst.fst.fst ∧
 x.snd.fst.snd.snd.fst.fst.snd.fst = x_7.fst.snd.snd.fst.fst.snd.fst ∧
 x.snd.fst.snd.snd.fst.fst.snd.snd.fst = x_7.fst.snd.snd.fst.fst.snd.snd.fst ∧
 Is (terms x.snd.fst.snd.snd.fst.fst.snd.snd.snd) (terms x_7.fst.snd.snd.fst.fst.snd.snd.snd) ∧
 Is (whys x.snd.fst.snd.snd.fst.snd) (whys x_7.fst.snd.snd.fst.snd) ∧
 Is (ints x.snd.fst.snd.snd.snd.fst) (ints x_7.fst.snd.snd.snd.fst) ∧
 x.snd.fst.snd.snd.snd.snd.fst.fst = x_7.fst.snd.snd.snd.snd.fst.fst ∧
 Is (terms x.snd.fst.snd.snd.snd.snd.fst.snd) (terms x_7.fst.snd.snd.snd.snd.fst.snd) ∧
 x.snd.fst.snd.snd.snd.snd.snd.fst = x_7.fst.snd.snd.snd.snd.snd.fst ∧
 Is (terms x.snd.fst.snd.snd.snd.snd.snd.snd) (terms x_7.fst.snd.snd.snd.snd.snd.snd) ∧
 Is (cases x.snd.snd) (cases x_7.snd) ∧ True) ∧
 True) ∧
 SmTr Pl.costPC (Pl.Tree.mk x_7.fst x_7.snd) ∧
 Exists fun (x_8 : Pl.CP × Pl.CP) =>
 ((x_6.fst.fst = x_8.fst.fst.fst ∧
 x_6.fst.snd.fst = x_8.fst.fst.snd.fst ∧
 x_6.fst.snd.snd.fst.fst.fst = x_8.fst.fst.snd.snd.fst.fst.fst ∧
 x_6.fst.snd.snd.fst.fst.snd.fst = x_8.fst.fst.snd.snd.fst.fst.snd.fst ∧
 x_6.fst.snd.snd.fst.fst.snd.snd.fst = x_8.fst.fst.snd.snd.fst.fst.snd.snd.fst ∧
 Is (terms x_6.fst.snd.snd.fst.fst.snd.snd.snd) (terms x_8.fst.fst.snd.snd.fst.fst.snd.snd.snd) ∧
 Is (whys x_6.fst.snd.snd.fst.snd) (whys x_8.fst.fst.snd.snd.fst.snd) ∧
 Is (ints x_6.fst.snd.snd.snd.fst) (ints x_8.fst.fst.snd.snd.snd.fst) ∧
 x_6.fst.snd.snd.snd.snd.fst.fst = x_8.fst.fst.snd.snd.snd.snd.fst.fst ∧
 Is (terms x_6.fst.snd.snd.snd.snd.fst.snd) (terms x_8.fst.fst.snd.snd.snd.snd.fst.snd) ∧
 x_6.fst.snd.snd.snd.snd.snd.fst = x_8.fst.fst.snd.snd.snd.snd.snd.fst ∧
 Is (terms x_6.fst.snd.snd.snd.snd.snd.snd) (terms x_8.fst.fst.snd.snd.snd.snd.snd.snd) ∧
 Is (cases x_6.snd) (cases x_8.fst.snd) ∧ True) ∧
 (x_7.fst.fst = x_8.snd.fst.fst ∧
 x_7.fst.snd.fst = x_8.snd.fst.snd.fst ∧
 x_7.fst.snd.snd.fst.fst.fst = x_8.snd.fst.snd.snd.fst.fst.fst ∧
 x_7.fst.snd.snd.fst.fst.snd.fst = x_8.snd.fst.snd.snd.fst.fst.snd.fst ∧
 x_7.fst.snd.snd.fst.fst.snd.snd.fst = x_8.snd.fst.snd.snd.fst.fst.snd.snd.fst ∧
 Is (terms x_7.fst.snd.snd.fst.fst.snd.snd.snd) (terms x_8.snd.fst.snd.snd.fst.fst.snd.snd.snd) ∧
 Is (whys x_7.fst.snd.snd.fst.snd) (whys x_8.snd.fst.snd.snd.fst.snd) ∧
 Is (ints x_7.fst.snd.snd.snd.fst) (ints x_8.snd.fst.snd.snd.snd.fst) ∧
 x_7.fst.snd.snd.snd.snd.fst.fst = x_8.snd.fst.snd.snd.snd.snd.fst.fst ∧
 Is (terms x_7.fst.snd.snd.snd.snd.fst.snd) (terms x_8.snd.fst.snd.snd.snd.snd.fst.snd) ∧
 x_7.fst.snd.snd.snd.snd.snd.fst = x_8.snd.fst.snd.snd.snd.snd.snd.fst ∧
 Is (terms x_7.fst.snd.snd.snd.snd.snd.snd) (terms x_8.snd.fst.snd.snd.snd.snd.snd.snd) ∧
 Is (cases x_7.snd) (cases x_8.snd.snd) ∧ True) ∧
 True) ∧
 SmTr Pl.costPC (Pl.Tree.mk x_8.fst.fst x_8.fst.snd) ∧
 condP (!Decidable.decide (x_8.fst = x_8.snd) == Decidable.decide (x_5.fst = x_5.snd)) (Bool.false = Bool.true)
 (Exists fun (x_9 : Pl.CP) =>
 ((x.fst.fst.fst = x_9.fst.fst ∧
 x.fst.fst.snd.fst = x_9.fst.snd.fst ∧
 x.fst.fst.snd.snd.fst.fst.fst = x_9.fst.snd.snd.fst.fst.fst ∧
 x.fst.fst.snd.snd.fst.fst.snd.fst = x_9.fst.snd.snd.fst.fst.snd.fst ∧
 x.fst.fst.snd.snd.fst.fst.snd.snd.fst = x_9.fst.snd.snd.fst.fst.snd.snd.fst ∧
 Is (terms x.fst.fst.snd.snd.fst.fst.snd.snd.snd) (terms x_9.fst.snd.snd.fst.fst.snd.snd.snd) ∧
 Is (whys x.fst.fst.snd.snd.fst.snd) (whys x_9.fst.snd.snd.fst.snd) ∧
 Is (ints x.fst.fst.snd.snd.snd.fst) (ints x_9.fst.snd.snd.snd.fst) ∧
 x.fst.fst.snd.snd.snd.snd.fst.fst = x_9.fst.snd.snd.snd.snd.fst.fst ∧
 Is (terms x.fst.fst.snd.snd.snd.snd.fst.snd) (terms x_9.fst.snd.snd.snd.snd.fst.snd) ∧
 x.fst.fst.snd.snd.snd.snd.snd.fst = x_9.fst.snd.snd.snd.snd.snd.fst ∧
 Is (terms x.fst.fst.snd.snd.snd.snd.snd.snd) (terms x_9.fst.snd.snd.snd.snd.snd.snd) ∧
 Is (cases x.fst.snd) (cases x_9.snd) ∧ True) ∧
 True) ∧
 SmTr Pl.costPC (Pl.Tree.mk x_9.fst x_9.snd) ∧
 Exists fun (x_10 : Pl.CP × Pl.CP) =>
 ((x_6.fst.fst = x_10.fst.fst.fst ∧
 x_6.fst.snd.fst = x_10.fst.fst.snd.fst ∧
 x_6.fst.snd.snd.fst.fst.fst = x_10.fst.fst.snd.snd.fst.fst.fst ∧
 x_6.fst.snd.snd.fst.fst.snd.fst = x_10.fst.fst.snd.snd.fst.fst.snd.fst ∧
 x_6.fst.snd.snd.fst.fst.snd.snd.fst = x_10.fst.fst.snd.snd.fst.fst.snd.snd.fst ∧
 Is (terms x_6.fst.snd.snd.fst.fst.snd.snd.snd) (terms x_10.fst.fst.snd.snd.fst.fst.snd.snd.snd) ∧
 Is (whys x_6.fst.snd.snd.fst.snd) (whys x_10.fst.fst.snd.snd.fst.snd) ∧
 Is (ints x_6.fst.snd.snd.snd.fst) (ints x_10.fst.fst.snd.snd.snd.fst) ∧
 x_6.fst.snd.snd.snd.snd.fst.fst = x_10.fst.fst.snd.snd.snd.snd.fst.fst ∧
 Is (terms x_6.fst.snd.snd.snd.snd.fst.snd) (terms x_10.fst.fst.snd.snd.snd.snd.fst.snd) ∧
 x_6.fst.snd.snd.snd.snd.snd.fst = x_10.fst.fst.snd.snd.snd.snd.snd.fst ∧
 Is (terms x_6.fst.snd.snd.snd.snd.snd.snd) (terms x_10.fst.fst.snd.snd.snd.snd.snd.snd) ∧
 Is (cases x_6.snd) (cases x_10.fst.snd) ∧ True) ∧
 (x_9.fst.fst = x_10.snd.fst.fst ∧
 x_9.fst.snd.fst = x_10.snd.fst.snd.fst ∧
 x_9.fst.snd.snd.fst.fst.fst = x_10.snd.fst.snd.snd.fst.fst.fst ∧
 x_9.fst.snd.snd.fst.fst.snd.fst = x_10.snd.fst.snd.snd.fst.fst.snd.fst ∧
 x_9.fst.snd.snd.fst.fst.snd.snd.fst = x_10.snd.fst.snd.snd.fst.fst.snd.snd.fst ∧
 Is (terms x_9.fst.snd.snd.fst.fst.snd.snd.snd) (terms x_10.snd.fst.snd.snd.fst.fst.snd.snd.snd) ∧
 Is (whys x_9.fst.snd.snd.fst.snd) (whys x_10.snd.fst.snd.snd.fst.snd) ∧
 Is (ints x_9.fst.snd.snd.snd.fst) (ints x_10.snd.fst.snd.snd.snd.fst) ∧
 x_9.fst.snd.snd.snd.snd.fst.fst = x_10.snd.fst.snd.snd.snd.snd.fst.fst ∧
 Is (terms x_9.fst.snd.snd.snd.snd.fst.snd) (terms x_10.snd.fst.snd.snd.snd.snd.fst.snd) ∧
 x_9.fst.snd.snd.snd.snd.snd.fst = x_10.snd.fst.snd.snd.snd.snd.snd.fst ∧
 Is (terms x_9.fst.snd.snd.snd.snd.snd.snd) (terms x_10.snd.fst.snd.snd.snd.snd.snd.snd) ∧
 Is (cases x_9.snd) (cases x_10.snd.snd) ∧ True) ∧
 True) ∧
 SmTr Pl.costPC (Pl.Tree.mk x_10.fst.fst x_10.fst.snd) ∧
 condP (!Decidable.decide (x_10.fst = x_10.snd)) (Bool.false = Bool.true)
 (Exists fun (x_11 : Pl.CP) =>
 ((x.snd.fst.fst = x_11.fst.fst ∧
 x.snd.fst.snd.fst = x_11.fst.snd.fst ∧
 x.snd.fst.snd.snd.fst.fst.fst = x_11.fst.snd.snd.fst.fst.fst ∧
 x.snd.fst.snd.snd.fst.fst.snd.fst = x_11.fst.snd.snd.fst.fst.snd.fst ∧
 x.snd.fst.snd.snd.fst.fst.snd.snd.fst = x_11.fst.snd.snd.fst.fst.snd.snd.fst ∧
 Is (terms x.snd.fst.snd.snd.fst.fst.snd.snd.snd) (terms x_11.fst.snd.snd.fst.fst.snd.snd.snd) ∧
 Is (whys x.snd.fst.snd.snd.fst.snd) (whys x_11.fst.snd.snd.fst.snd) ∧
 Is (ints x.snd.fst.snd.snd.snd.fst) (ints x_11.fst.snd.snd.snd.fst) ∧
 x.snd.fst.snd.snd.snd.snd.fst.fst = x_11.fst.snd.snd.snd.snd.fst.fst ∧
 Is (terms x.snd.fst.snd.snd.snd.snd.fst.snd) (terms x_11.fst.snd.snd.snd.snd.fst.snd) ∧
 x.snd.fst.snd.snd.snd.snd.snd.fst = x_11.fst.snd.snd.snd.snd.snd.fst ∧
 Is (terms x.snd.fst.snd.snd.snd.snd.snd.snd) (terms x_11.fst.snd.snd.snd.snd.snd.snd) ∧
 Is (cases x.snd.snd) (cases x_11.snd) ∧ True) ∧
 True) ∧
 SmTr Pl.costPC (Pl.Tree.mk x_11.fst x_11.snd) ∧
 Exists fun (x : Pl.CP × Pl.CP) =>
 ((x_7.fst.fst = x.fst.fst.fst ∧
 x_7.fst.snd.fst = x.fst.fst.snd.fst ∧
 x_7.fst.snd.snd.fst.fst.fst = x.fst.fst.snd.snd.fst.fst.fst ∧
 x_7.fst.snd.snd.fst.fst.snd.fst = x.fst.fst.snd.snd.fst.fst.snd.fst ∧
 x_7.fst.snd.snd.fst.fst.snd.snd.fst = x.fst.fst.snd.snd.fst.fst.snd.snd.fst ∧
 Is (terms x_7.fst.snd.snd.fst.fst.snd.snd.snd) (terms x.fst.fst.snd.snd.fst.fst.snd.snd.snd) ∧
 Is (whys x_7.fst.snd.snd.fst.snd) (whys x.fst.fst.snd.snd.fst.snd) ∧
 Is (ints x_7.fst.snd.snd.snd.fst) (ints x.fst.fst.snd.snd.snd.fst) ∧
 x_7.fst.snd.snd.snd.snd.fst.fst = x.fst.fst.snd.snd.snd.snd.fst.fst ∧
 Is (terms x_7.fst.snd.snd.snd.snd.fst.snd) (terms x.fst.fst.snd.snd.snd.snd.fst.snd) ∧
 x_7.fst.snd.snd.snd.snd.snd.fst = x.fst.fst.snd.snd.snd.snd.snd.fst ∧
 Is (terms x_7.fst.snd.snd.snd.snd.snd.snd) (terms x.fst.fst.snd.snd.snd.snd.snd.snd) ∧
 Is (cases x_7.snd) (cases x.fst.snd) ∧ True) ∧
 (x_11.fst.fst = x.snd.fst.fst ∧
 x_11.fst.snd.fst = x.snd.fst.snd.fst ∧
 x_11.fst.snd.snd.fst.fst.fst = x.snd.fst.snd.snd.fst.fst.fst ∧
 x_11.fst.snd.snd.fst.fst.snd.fst = x.snd.fst.snd.snd.fst.fst.snd.fst ∧
 x_11.fst.snd.snd.fst.fst.snd.snd.fst = x.snd.fst.snd.snd.fst.fst.snd.snd.fst ∧
 Is (terms x_11.fst.snd.snd.fst.fst.snd.snd.snd) (terms x.snd.fst.snd.snd.fst.fst.snd.snd.snd) ∧
 Is (whys x_11.fst.snd.snd.fst.snd) (whys x.snd.fst.snd.snd.fst.snd) ∧
 Is (ints x_11.fst.snd.snd.snd.fst) (ints x.snd.fst.snd.snd.snd.fst) ∧
 x_11.fst.snd.snd.snd.snd.fst.fst = x.snd.fst.snd.snd.snd.snd.fst.fst ∧
 Is (terms x_11.fst.snd.snd.snd.snd.fst.snd) (terms x.snd.fst.snd.snd.snd.snd.fst.snd) ∧
 x_11.fst.snd.snd.snd.snd.snd.fst = x.snd.fst.snd.snd.snd.snd.snd.fst ∧
 Is (terms x_11.fst.snd.snd.snd.snd.snd.snd) (terms x.snd.fst.snd.snd.snd.snd.snd.snd) ∧
 Is (cases x_11.snd) (cases x.snd.snd) ∧ True) ∧
 True) ∧
 SmTr Pl.costPC (Pl.Tree.mk x.fst.fst x.fst.snd) ∧
 condP (!Decidable.decide (x.fst = x.snd)) (Bool.false = Bool.true) (Bool.true = Bool.true)))))) = Goal Try.prog [K_szCase, K_toCase, K_sCaseSame, K_iCaseSame, K_eqCase] ([]) K_xCaseSame.1 K_xCaseSame.2 (x) := by kernel_rfl

end Cg
