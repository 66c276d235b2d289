/-
  What is left to show of each function's code, printed by a program: Cnf. No condition.
-/
import Derived.Test.YtgobdkgdhmkegaaCnfDefs
import Derived.Test.YtgobdkgdhmkegaaProg
set_option maxRecDepth 100000
set_option linter.unusedVariables false
namespace Cg
open Go Go.Proofs
theorem vc_szCnf (c : Pl.Cnf) (k : Int) : (Exists fun (x : List (List Int) × Int) =>
 (Is (intss c.snd) (intss x.fst) ∧ k = x.snd ∧ True) ∧
 (MlL x.fst ∧ Fu x.snd) ∧ condP (Decidable.decide (Pl.szSS x.fst x.snd < (0 : Int))) ((-1 : Int) = Pl.szSS c.snd k) (Pl.szSS x.fst x.snd = Pl.szSS c.snd k)) = Goal Try.prog [K_szIntSS] ([]) K_szCnf.1 K_szCnf.2 ((c, k)) := by kernel_rfl

theorem vc_toCnf (c : Pl.Cnf) : (Exists fun (x : List (List Int)) => (Is (intss c.snd) (intss x) ∧ True) ∧ SzL x ∧ c.fst = c.fst ∧ Is (intss x) (intss c.snd) ∧ True) = Goal Try.prog [K_toIntSS] ([]) K_toCnf.1 K_toCnf.2 (c) := by kernel_rfl

theorem vc_eqCnf (c d : Pl.Cnf) : (condP (c.fst != d.fst) (Bool.false = Decidable.decide (c = d))
 (Exists fun (x : List (List Int) × List (List Int)) =>
 (Is (intss c.snd) (intss x.fst) ∧ Is (intss d.snd) (intss x.snd) ∧ True) ∧
 SzL x.fst ∧ condP (!Decidable.decide (x.fst = x.snd)) (Bool.false = Decidable.decide (c = d)) (Bool.true = Decidable.decide (c = d)))) = Goal Try.prog [K_eqIntSS] ([]) K_eqCnf.1 K_eqCnf.2 ((c, d)) := by kernel_rfl

theorem vc_sCnfOk (c : Pl.Cnf) : (condP (Decidable.decide (c.fst < (0 : Int))) (Bool.false = Pl.cnfOk c)
 (condP (Decidable.decide (c.fst > (60 : Int))) (Bool.false = Pl.cnfOk c)
 (condP (Decidable.decide ((↑c.snd.length : Int) > (400 : Int))) (Bool.false = Pl.cnfOk c)
 ((Exists fun (x : Nat) =>
 (x ≤ c.snd.length ∧ Pl.cnfOk c = (List.drop x c.snd).all fun (y : List Int) => Pl.specClause y c.fst) ∧
 ((0 : Nat) = (0 : Nat) ∧ (0 : Int) = (↑x : Int) ∧ True) ∧ (c.fst = c.fst ∧ Is (intss c.snd) (intss c.snd) ∧ True) ∧ True) ∧
 ∀ (x : Nat),
 (x ≤ c.snd.length ∧ Pl.cnfOk c = (List.drop x c.snd).all fun (y : List Int) => Pl.specClause y c.fst) →
 condP (Decidable.decide ((↑x : Int) < (↑c.snd.length : Int)))
 (((0 : Int) ≤ (↑x : Int) ∧ (↑x : Int) < (↑c.snd.length : Int)) ∧
 x < c.snd.length ∧
 Exists fun (x_1 : List Int × Int) =>
 (Is (ints (c.snd.getD x [])) (ints x_1.fst) ∧ c.fst = x_1.snd ∧ True) ∧
 Sz x_1.fst ∧
 condP (!Pl.specClause x_1.fst x_1.snd) (Bool.false = Pl.cnfOk c)
 (Exists fun (x' : Nat) =>
 (x' ≤ c.snd.length ∧ Pl.cnfOk c = (List.drop x' c.snd).all fun (y : List Int) => Pl.specClause y c.fst) ∧
 c.snd.length - x' < c.snd.length - x ∧
 ((0 : Nat) = (0 : Nat) ∧ IntKind.i64.wrap ((↑x : Int) + (1 : Int)) = (↑x' : Int) ∧ True) ∧ (c.fst = c.fst ∧ Is (intss c.snd) (intss c.snd) ∧ True) ∧ True))
 (Bool.true = Pl.cnfOk c))))) = Goal Try.prog [K_sClauseOk] (A_sCnfOk c) K_sCnfOk.1 K_sCnfOk.2 (c) := by kernel_rfl

theorem vc_CnfOk1 (l : List Int) (c : Pl.Cnf) : ((0 : Nat) < (1 : Nat) ∧ Exists fun (x : List Int × Int) => (Is (ints l) (ints x.fst) ∧ c.fst = x.snd ∧ True) ∧ Sz x.fst ∧ (!Pl.implClause x.fst x.snd) = !Pl.specClause l c.fst) = Goal Try.prog [K_iClauseOk] ([]) K_CnfOk1.1 K_CnfOk1.2 ((l, c)) := by kernel_rfl

theorem vc_IndexCnfOk (l : List (List Int)) (c : Pl.Cnf) : ((Exists fun (x : Nat) =>
 (x ≤ l.length ∧
 Pl.idx (fun (x : List Int) => !Pl.specClause x c.fst) l =
 if Pl.idx (fun (x : List Int) => !Pl.specClause x c.fst) (List.drop x l) < (0 : Int) then (-1 : Int)
 else Pl.idx (fun (x : List Int) => !Pl.specClause x c.fst) (List.drop x l) + (↑x : Int)) ∧
 (Is (intss l) (intss l) ∧
 (Is (refs [i64 c.fst, intss c.snd]) (refs [i64 c.fst, intss c.snd]) ∧ True) ∧ (↑l.length : Int) = (↑l.length : Int) ∧ (0 : Int) = (↑x : Int) ∧ True) ∧
 True) ∧
 ∀ (x : Nat),
 (x ≤ l.length ∧
 Pl.idx (fun (x : List Int) => !Pl.specClause x c.fst) l =
 if Pl.idx (fun (x : List Int) => !Pl.specClause x c.fst) (List.drop x l) < (0 : Int) then (-1 : Int)
 else Pl.idx (fun (x : List Int) => !Pl.specClause x c.fst) (List.drop x l) + (↑x : Int)) →
 condP (Decidable.decide ((↑x : Int) < (↑l.length : Int)))
 (((0 : Int) ≤ (↑x : Int) ∧ (↑x : Int) < (↑l.length : Int)) ∧
 x < l.length ∧
 Exists fun (x_1 : List Int × Pl.Cnf) =>
 (Is (ints (l.getD x [])) (ints x_1.fst) ∧ Is (refs [i64 c.fst, intss c.snd]) (refs [i64 x_1.snd.fst, intss x_1.snd.snd]) ∧ True) ∧
 Sz x_1.fst ∧
 condP (!Pl.specClause x_1.fst x_1.snd.fst) ((↑x : Int) = Pl.idx (fun (y : List Int) => !Pl.specClause y c.fst) l)
 (Exists fun (x' : Nat) =>
 (x' ≤ l.length ∧
 Pl.idx (fun (x : List Int) => !Pl.specClause x c.fst) l =
 if Pl.idx (fun (x : List Int) => !Pl.specClause x c.fst) (List.drop x' l) < (0 : Int) then (-1 : Int)
 else Pl.idx (fun (x : List Int) => !Pl.specClause x c.fst) (List.drop x' l) + (↑x' : Int)) ∧
 l.length - x' < l.length - x ∧
 (Is (intss l) (intss l) ∧
 (Is (refs [i64 c.fst, intss c.snd]) (refs [i64 c.fst, intss c.snd]) ∧ True) ∧
 (↑l.length : Int) = (↑l.length : Int) ∧ IntKind.i64.wrap ((↑x : Int) + (1 : Int)) = (↑x' : Int) ∧ True) ∧
 True))
 ((-1 : Int) = Pl.idx (fun (y : List Int) => !Pl.specClause y c.fst) l)) = Goal Try.prog [K_CnfOk1] (A_IndexCnfOk l c) K_IndexCnfOk.1 K_IndexCnfOk.2 ((l, c)) := by kernel_rfl

theorem vc_ContainsCnfOk (l : List (List Int)) (c : Pl.Cnf) : (Exists fun (x : List (List Int) × Pl.Cnf) =>
 (Is (intss l) (intss x.fst) ∧ (Is (refs [i64 c.fst, intss c.snd]) (refs [i64 x.snd.fst, intss x.snd.snd]) ∧ True) ∧ True) ∧
 SzL x.fst ∧ Decidable.decide (Pl.idx (fun (y : List Int) => !Pl.specClause y x.snd.fst) x.fst ≥ (0 : Int)) = l.any fun (y : List Int) => !Pl.specClause y c.fst) = Goal Try.prog [K_IndexCnfOk] ([]) K_ContainsCnfOk.1 K_ContainsCnfOk.2 ((l, c)) := by kernel_rfl

theorem vc_iCnfOk (c : Pl.Cnf) : (Exists fun (x : Int × Int × Int) =>
 (c.fst = x.fst ∧ (0 : Int) = x.snd.fst ∧ (60 : Int) = x.snd.snd ∧ True) ∧
 True ∧
 condP (!Pl.withinI x.fst x.snd.fst x.snd.snd) (Bool.false = Pl.cnfOk c)
 (condP (Decidable.decide ((↑c.snd.length : Int) > (400 : Int))) (Bool.false = Pl.cnfOk c)
 (Exists fun (x : List (List Int) × Pl.Cnf) =>
 (Is (intss c.snd) (intss x.fst) ∧ (Is (refs [i64 c.fst, intss c.snd]) (refs [i64 x.snd.fst, intss x.snd.snd]) ∧ True) ∧ True) ∧
 SzL x.fst ∧ (!x.fst.any fun (y : List Int) => !Pl.specClause y x.snd.fst) = Pl.cnfOk c))) = Goal Try.prog [K_within, K_ContainsCnfOk] ([]) K_iCnfOk.1 K_iCnfOk.2 (c) := by kernel_rfl

theorem vc_CnfIs1 (l : List Int) (v : List Bool) : ((0 : Nat) < (1 : Nat) ∧
 Exists fun (x : List Int × List Bool) =>
 (Is (ints l) (ints x.fst) ∧ Is (bools v) (bools x.snd) ∧ True) ∧ (Sz x.fst ∧ Sz x.snd) ∧ (!Pl.clauseIs x.fst x.snd) = !Pl.clauseIs l v) = Goal Try.prog [K_iClauseIs] ([]) K_CnfIs1.1 K_CnfIs1.2 ((l, v)) := by kernel_rfl

theorem vc_IndexCnfIs (l : List (List Int)) (v : List Bool) : ((Exists fun (x : Nat) =>
 (x ≤ l.length ∧
 Pl.idx (fun (x : List Int) => !Pl.clauseIs x v) l =
 if Pl.idx (fun (x : List Int) => !Pl.clauseIs x v) (List.drop x l) < (0 : Int) then (-1 : Int) else Pl.idx (fun (x : List Int) => !Pl.clauseIs x v) (List.drop x l) + (↑x : Int)) ∧
 (Is (intss l) (intss l) ∧ (Is (refs [bools v]) (refs [bools v]) ∧ True) ∧ (↑l.length : Int) = (↑l.length : Int) ∧ (0 : Int) = (↑x : Int) ∧ True) ∧ True) ∧
 ∀ (x : Nat),
 (x ≤ l.length ∧
 Pl.idx (fun (x : List Int) => !Pl.clauseIs x v) l =
 if Pl.idx (fun (x : List Int) => !Pl.clauseIs x v) (List.drop x l) < (0 : Int) then (-1 : Int) else Pl.idx (fun (x : List Int) => !Pl.clauseIs x v) (List.drop x l) + (↑x : Int)) →
 condP (Decidable.decide ((↑x : Int) < (↑l.length : Int)))
 (((0 : Int) ≤ (↑x : Int) ∧ (↑x : Int) < (↑l.length : Int)) ∧
 x < l.length ∧
 Exists fun (x_1 : List Int × List Bool) =>
 (Is (ints (l.getD x [])) (ints x_1.fst) ∧ Is (refs [bools v]) (refs [bools x_1.snd]) ∧ True) ∧
 (Sz x_1.fst ∧ Sz x_1.snd) ∧
 condP (!Pl.clauseIs x_1.fst x_1.snd) ((↑x : Int) = Pl.idx (fun (y : List Int) => !Pl.clauseIs y v) l)
 (Exists fun (x' : Nat) =>
 (x' ≤ l.length ∧
 Pl.idx (fun (x : List Int) => !Pl.clauseIs x v) l =
 if Pl.idx (fun (x : List Int) => !Pl.clauseIs x v) (List.drop x' l) < (0 : Int) then (-1 : Int)
 else Pl.idx (fun (x : List Int) => !Pl.clauseIs x v) (List.drop x' l) + (↑x' : Int)) ∧
 l.length - x' < l.length - x ∧
 (Is (intss l) (intss l) ∧
 (Is (refs [bools v]) (refs [bools v]) ∧ True) ∧
 (↑l.length : Int) = (↑l.length : Int) ∧ IntKind.i64.wrap ((↑x : Int) + (1 : Int)) = (↑x' : Int) ∧ True) ∧
 True))
 ((-1 : Int) = Pl.idx (fun (y : List Int) => !Pl.clauseIs y v) l)) = Goal Try.prog [K_CnfIs1] (A_IndexCnfIs l v) K_IndexCnfIs.1 K_IndexCnfIs.2 ((l, v)) := by kernel_rfl

theorem vc_ContainsCnfIs (l : List (List Int)) (v : List Bool) : (Exists fun (x : List (List Int) × List Bool) =>
 (Is (intss l) (intss x.fst) ∧ (Is (refs [bools v]) (refs [bools x.snd]) ∧ True) ∧ True) ∧
 (SzL x.fst ∧ Sz x.snd) ∧ Decidable.decide (Pl.idx (fun (y : List Int) => !Pl.clauseIs y x.snd) x.fst ≥ (0 : Int)) = l.any fun (y : List Int) => !Pl.clauseIs y v) = Goal Try.prog [K_IndexCnfIs] ([]) K_ContainsCnfIs.1 K_ContainsCnfIs.2 ((l, v)) := by kernel_rfl

theorem vc_iCnfIs (c : Pl.Cnf) (v : List Bool) : (Exists fun (x : Pl.Cnf) =>
 ((c.fst = x.fst ∧ Is (intss c.snd) (intss x.snd) ∧ True) ∧ True) ∧
 SzC x ∧
 condP (Pl.cnfOk x)
 (condP ((↑v.length : Int) == c.fst)
 (Exists fun (x : List (List Int) × List Bool) =>
 (Is (intss c.snd) (intss x.fst) ∧ (Is (refs [bools v]) (refs [bools x.snd]) ∧ True) ∧ True) ∧
 (SzL x.fst ∧ Sz x.snd) ∧ (!x.fst.any fun (y : List Int) => !Pl.clauseIs y x.snd) = Pl.cnfIs c v)
 (Bool.false = Pl.cnfIs c v))
 (Bool.false = Pl.cnfIs c v)) = Goal Try.prog [K_iCnfOk, K_ContainsCnfIs] ([]) K_iCnfIs.1 K_iCnfIs.2 ((c, v)) := by kernel_rfl

end Cg
