/-
  What is left to show of each function's code, printed by a program: Same. No condition.
-/
import Derived.Test.YtjhiaobcbbnhnaaGreatSameDefs
import Derived.Test.YtjhiaobcbbnhnaaGreatProg
set_option maxRecDepth 100000
set_option linter.unusedVariables false
namespace Cg
open Go Go.Proofs
theorem vc_szAtom (x : Pl.Atm × Int) : (Exists fun (x_1 : Pl.TP × Int) =>
 ((x.fst.snd.fst.fst = x_1.fst.fst ∧ Is (terms x.fst.snd.fst.snd) (terms x_1.fst.snd) ∧ True) ∧ x.snd = x_1.snd ∧ True) ∧
 (MlT (Pl.Tree.mk x_1.fst.fst x_1.fst.snd) ∧ Fu x_1.snd) ∧
 condP (Decidable.decide (Pl.lim (x_1.snd - (↑(Pl.costT (Pl.Tree.mk x_1.fst.fst x_1.fst.snd)) : Int)) < (0 : Int))) ((-1 : Int) = Pl.lim (x.snd - (↑(Pl.costA x.fst) : Int)))
 (Exists fun (x_2 : Pl.TP × Int) =>
 ((x.fst.snd.snd.fst.fst = x_2.fst.fst ∧ Is (terms x.fst.snd.snd.fst.snd) (terms x_2.fst.snd) ∧ True) ∧
 Pl.lim (x_1.snd - (↑(Pl.costT (Pl.Tree.mk x_1.fst.fst x_1.fst.snd)) : Int)) = x_2.snd ∧ True) ∧
 (MlT (Pl.Tree.mk x_2.fst.fst x_2.fst.snd) ∧ Fu x_2.snd) ∧
 condP (Decidable.decide (Pl.lim (x_2.snd - (↑(Pl.costT (Pl.Tree.mk x_2.fst.fst x_2.fst.snd)) : Int)) < (0 : Int))) ((-1 : Int) = Pl.lim (x.snd - (↑(Pl.costA x.fst) : Int)))
 (Exists fun (x_3 : List Pl.Tm × Int) =>
 (Is (terms x.fst.snd.snd.snd.fst) (terms x_3.fst) ∧ Pl.lim (x_2.snd - (↑(Pl.costT (Pl.Tree.mk x_2.fst.fst x_2.fst.snd)) : Int)) = x_3.snd ∧ True) ∧
 ((Ml x_3.fst ∧ ∀ (t : Pl.Tm), t ∈ x_3.fst → MlT t) ∧ Fu x_3.snd) ∧
 condP (Decidable.decide (Pl.lim (x_3.snd - (↑(x_3.fst.length + Pl.costTs x_3.fst) : Int)) < (0 : Int))) ((-1 : Int) = Pl.lim (x.snd - (↑(Pl.costA x.fst) : Int)))
 (Exists fun (x_4 : List Int × Int) =>
 (Is (ints x.fst.snd.snd.snd.snd.fst) (ints x_4.fst) ∧ Pl.lim (x_3.snd - (↑(x_3.fst.length + Pl.costTs x_3.fst) : Int)) = x_4.snd ∧ True) ∧
 (Ml x_4.fst ∧ Fu x_4.snd) ∧
 condP (Decidable.decide (Pl.sz1 x_4.fst.length x_4.snd < (0 : Int))) ((-1 : Int) = Pl.lim (x.snd - (↑(Pl.costA x.fst) : Int)))
 (Pl.sz1 x_4.fst.length x_4.snd = Pl.lim (x.snd - (↑(Pl.costA x.fst) : Int))))))) = Goal Tryz.prog [K_szT, K_szTs, K_szIntS] ([]) K_szAtom.1 K_szAtom.2 (x) := by kernel_rfl

theorem vc_szLit (x : Pl.Ltr × Int) : (Exists fun (x_1 : Pl.Atm × Int) =>
 ((x.fst.fst.fst = x_1.fst.fst ∧
 x.fst.fst.snd.fst.fst = x_1.fst.snd.fst.fst ∧
 Is (terms x.fst.fst.snd.fst.snd) (terms x_1.fst.snd.fst.snd) ∧
 x.fst.fst.snd.snd.fst.fst = x_1.fst.snd.snd.fst.fst ∧
 Is (terms x.fst.fst.snd.snd.fst.snd) (terms x_1.fst.snd.snd.fst.snd) ∧
 Is (terms x.fst.fst.snd.snd.snd.fst) (terms x_1.fst.snd.snd.snd.fst) ∧
 Is (ints x.fst.fst.snd.snd.snd.snd.fst) (ints x_1.fst.snd.snd.snd.snd.fst) ∧
 x.fst.fst.snd.snd.snd.snd.snd.fst = x_1.fst.snd.snd.snd.snd.snd.fst ∧ x.fst.fst.snd.snd.snd.snd.snd.snd = x_1.fst.snd.snd.snd.snd.snd.snd ∧ True) ∧
 x.snd = x_1.snd ∧ True) ∧
 (MlA x_1.fst ∧ Fu x_1.snd) ∧
 condP (Decidable.decide (Pl.lim (x_1.snd - (↑(Pl.costA x_1.fst) : Int)) < (0 : Int))) ((-1 : Int) = Pl.lim (x.snd - (↑(Pl.costL x.fst) : Int)))
 (Pl.lim (x_1.snd - (↑(Pl.costA x_1.fst) : Int)) = Pl.lim (x.snd - (↑(Pl.costL x.fst) : Int)))) = Goal Tryz.prog [K_szAtom] ([]) K_szLit.1 K_szLit.2 (x) := by kernel_rfl

theorem vc_toAtom (x : Pl.Atm) : (Exists fun (x_1 : Pl.TP) =>
 ((x.snd.fst.fst = x_1.fst ∧ Is (terms x.snd.fst.snd) (terms x_1.snd) ∧ True) ∧ True) ∧
 SmT (Pl.Tree.mk x_1.fst x_1.snd) ∧
 Exists fun (x_2 : Pl.TP) =>
 ((x.snd.snd.fst.fst = x_2.fst ∧ Is (terms x.snd.snd.fst.snd) (terms x_2.snd) ∧ True) ∧ True) ∧
 SmT (Pl.Tree.mk x_2.fst x_2.snd) ∧
 Exists fun (x_3 : List Pl.Tm) =>
 (Is (terms x.snd.snd.snd.fst) (terms x_3) ∧ True) ∧
 SmTs x_3 ∧
 Exists fun (x_4 : List Int) =>
 (Is (ints x.snd.snd.snd.snd.fst) (ints x_4) ∧ True) ∧
 Sz x_4 ∧
 x.fst = x.fst ∧
 x_1.fst = x.snd.fst.fst ∧
 Is (terms x_1.snd) (terms x.snd.fst.snd) ∧
 x_2.fst = x.snd.snd.fst.fst ∧
 Is (terms x_2.snd) (terms x.snd.snd.fst.snd) ∧
 Is (terms x_3) (terms x.snd.snd.snd.fst) ∧
 Is (ints x_4) (ints x.snd.snd.snd.snd.fst) ∧
 x.snd.snd.snd.snd.snd.fst = x.snd.snd.snd.snd.snd.fst ∧ x.snd.snd.snd.snd.snd.snd = x.snd.snd.snd.snd.snd.snd ∧ True) = Goal Tryz.prog [K_toT, K_toTs, K_toIntS] ([]) K_toAtom.1 K_toAtom.2 (x) := by kernel_rfl

theorem vc_toLit (x : Pl.Ltr) : (Exists fun (x_1 : Pl.Atm) =>
 ((x.fst.fst = x_1.fst ∧
 x.fst.snd.fst.fst = x_1.snd.fst.fst ∧
 Is (terms x.fst.snd.fst.snd) (terms x_1.snd.fst.snd) ∧
 x.fst.snd.snd.fst.fst = x_1.snd.snd.fst.fst ∧
 Is (terms x.fst.snd.snd.fst.snd) (terms x_1.snd.snd.fst.snd) ∧
 Is (terms x.fst.snd.snd.snd.fst) (terms x_1.snd.snd.snd.fst) ∧
 Is (ints x.fst.snd.snd.snd.snd.fst) (ints x_1.snd.snd.snd.snd.fst) ∧
 x.fst.snd.snd.snd.snd.snd.fst = x_1.snd.snd.snd.snd.snd.fst ∧ x.fst.snd.snd.snd.snd.snd.snd = x_1.snd.snd.snd.snd.snd.snd ∧ True) ∧
 True) ∧
 SmA x_1 ∧
 x_1.fst = x.fst.fst ∧
 x_1.snd.fst.fst = x.fst.snd.fst.fst ∧
 Is (terms x_1.snd.fst.snd) (terms x.fst.snd.fst.snd) ∧
 x_1.snd.snd.fst.fst = x.fst.snd.snd.fst.fst ∧
 Is (terms x_1.snd.snd.fst.snd) (terms x.fst.snd.snd.fst.snd) ∧
 Is (terms x_1.snd.snd.snd.fst) (terms x.fst.snd.snd.snd.fst) ∧
 Is (ints x_1.snd.snd.snd.snd.fst) (ints x.fst.snd.snd.snd.snd.fst) ∧
 x_1.snd.snd.snd.snd.snd.fst = x.fst.snd.snd.snd.snd.snd.fst ∧ x_1.snd.snd.snd.snd.snd.snd = x.fst.snd.snd.snd.snd.snd.snd ∧ x.snd = x.snd ∧ True) = Goal Tryz.prog [K_toAtom] ([]) K_toLit.1 K_toLit.2 (x) := by kernel_rfl

theorem vc_eqAtom (x : Pl.Atm × Pl.Atm) : (condP (x.fst.fst != x.snd.fst) (Bool.false = Decidable.decide (x.fst = x.snd))
 (Exists fun (x_1 : Pl.TP × Pl.TP) =>
 ((x.fst.snd.fst.fst = x_1.fst.fst ∧ Is (terms x.fst.snd.fst.snd) (terms x_1.fst.snd) ∧ True) ∧
 (x.snd.snd.fst.fst = x_1.snd.fst ∧ Is (terms x.snd.snd.fst.snd) (terms x_1.snd.snd) ∧ True) ∧ True) ∧
 SmT (Pl.Tree.mk x_1.fst.fst x_1.fst.snd) ∧
 condP (!Decidable.decide (x_1.fst = x_1.snd)) (Bool.false = Decidable.decide (x.fst = x.snd))
 (Exists fun (x_2 : Pl.TP × Pl.TP) =>
 ((x.fst.snd.snd.fst.fst = x_2.fst.fst ∧ Is (terms x.fst.snd.snd.fst.snd) (terms x_2.fst.snd) ∧ True) ∧
 (x.snd.snd.snd.fst.fst = x_2.snd.fst ∧ Is (terms x.snd.snd.snd.fst.snd) (terms x_2.snd.snd) ∧ True) ∧ True) ∧
 SmT (Pl.Tree.mk x_2.fst.fst x_2.fst.snd) ∧
 condP (!Decidable.decide (x_2.fst = x_2.snd)) (Bool.false = Decidable.decide (x.fst = x.snd))
 (Exists fun (x_3 : List Pl.Tm × List Pl.Tm) =>
 (Is (terms x.fst.snd.snd.snd.fst) (terms x_3.fst) ∧ Is (terms x.snd.snd.snd.snd.fst) (terms x_3.snd) ∧ True) ∧
 SmTs x_3.fst ∧
 condP (!Decidable.decide (x_3.fst = x_3.snd)) (Bool.false = Decidable.decide (x.fst = x.snd))
 (Exists fun (x_4 : List Int × List Int) =>
 (Is (ints x.fst.snd.snd.snd.snd.fst) (ints x_4.fst) ∧ Is (ints x.snd.snd.snd.snd.snd.fst) (ints x_4.snd) ∧ True) ∧
 Sz x_4.fst ∧
 condP (!Decidable.decide (x_4.fst = x_4.snd)) (Bool.false = Decidable.decide (x.fst = x.snd))
 (condP (x.fst.snd.snd.snd.snd.snd.fst != x.snd.snd.snd.snd.snd.snd.fst) (Bool.false = Decidable.decide (x.fst = x.snd))
 (condP (!x.fst.snd.snd.snd.snd.snd.snd == x.snd.snd.snd.snd.snd.snd.snd) (Bool.false = Decidable.decide (x.fst = x.snd))
 (Bool.true = Decidable.decide (x.fst = x.snd))))))))) = Goal Tryz.prog [K_eqT, K_eqTs, K_eqIntS] ([]) K_eqAtom.1 K_eqAtom.2 (x) := by kernel_rfl

theorem vc_eqLit (x : Pl.Ltr × Pl.Ltr) : (Exists fun (x_1 : Pl.Atm × Pl.Atm) =>
 ((x.fst.fst.fst = x_1.fst.fst ∧
 x.fst.fst.snd.fst.fst = x_1.fst.snd.fst.fst ∧
 Is (terms x.fst.fst.snd.fst.snd) (terms x_1.fst.snd.fst.snd) ∧
 x.fst.fst.snd.snd.fst.fst = x_1.fst.snd.snd.fst.fst ∧
 Is (terms x.fst.fst.snd.snd.fst.snd) (terms x_1.fst.snd.snd.fst.snd) ∧
 Is (terms x.fst.fst.snd.snd.snd.fst) (terms x_1.fst.snd.snd.snd.fst) ∧
 Is (ints x.fst.fst.snd.snd.snd.snd.fst) (ints x_1.fst.snd.snd.snd.snd.fst) ∧
 x.fst.fst.snd.snd.snd.snd.snd.fst = x_1.fst.snd.snd.snd.snd.snd.fst ∧ x.fst.fst.snd.snd.snd.snd.snd.snd = x_1.fst.snd.snd.snd.snd.snd.snd ∧ True) ∧
 (x.snd.fst.fst = x_1.snd.fst ∧
 x.snd.fst.snd.fst.fst = x_1.snd.snd.fst.fst ∧
 Is (terms x.snd.fst.snd.fst.snd) (terms x_1.snd.snd.fst.snd) ∧
 x.snd.fst.snd.snd.fst.fst = x_1.snd.snd.snd.fst.fst ∧
 Is (terms x.snd.fst.snd.snd.fst.snd) (terms x_1.snd.snd.snd.fst.snd) ∧
 Is (terms x.snd.fst.snd.snd.snd.fst) (terms x_1.snd.snd.snd.snd.fst) ∧
 Is (ints x.snd.fst.snd.snd.snd.snd.fst) (ints x_1.snd.snd.snd.snd.snd.fst) ∧
 x.snd.fst.snd.snd.snd.snd.snd.fst = x_1.snd.snd.snd.snd.snd.snd.fst ∧ x.snd.fst.snd.snd.snd.snd.snd.snd = x_1.snd.snd.snd.snd.snd.snd.snd ∧ True) ∧
 True) ∧
 SmA x_1.fst ∧
 condP (!Decidable.decide (x_1.fst = x_1.snd)) (Bool.false = Decidable.decide (x.fst = x.snd))
 (condP (!x.fst.snd == x.snd.snd) (Bool.false = Decidable.decide (x.fst = x.snd)) (Bool.true = Decidable.decide (x.fst = x.snd)))) = Goal Tryz.prog [K_eqAtom] ([]) K_eqLit.1 K_eqLit.2 (x) := by kernel_rfl

end Cg
