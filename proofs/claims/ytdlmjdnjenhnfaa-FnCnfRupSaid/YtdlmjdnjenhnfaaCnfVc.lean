/-
  What is left to show of each function's code, printed by a program: Cnf. No condition.
-/
import Derived.Test.YtdlmjdnjenhnfaaCnfDefs
import Derived.Test.YtdlmjdnjenhnfaaProg
set_option maxRecDepth 100000
set_option linter.unusedVariables false
namespace Cg
open Go Go.Proofs
theorem vc_szCnf (c : Pl.Cnf) (k : Int) : (Exists fun (x : List (List Int) × Int) =>
 (Is (intss c.snd) (intss x.fst) ∧ k = x.snd ∧ True) ∧
 (MlL x.fst ∧ Fu x.snd) ∧ condP (Decidable.decide (Pl.szSS x.fst x.snd < (0 : Int))) ((-1 : Int) = Pl.szSS c.snd k) (Pl.szSS x.fst x.snd = Pl.szSS c.snd k)) = Goal Try.prog [K_szIntSS] ([]) K_szCnf.1 K_szCnf.2 ((c, k)) := by kernel_rfl

theorem vc_toCnf (c : Pl.Cnf) : (Exists fun (x : List (List Int)) => (Is (intss c.snd) (intss x) ∧ True) ∧ SzL x ∧ c.fst = c.fst ∧ Is (intss x) (intss c.snd) ∧ True) = Goal Try.prog [K_toIntSS] ([]) K_toCnf.1 K_toCnf.2 (c) := by kernel_rfl

theorem vc_eqCnf (c d : Pl.Cnf) : (condP (c.fst != d.fst) (Bool.false = Decidable.decide (c = d))
 (Exists fun (x : List (List Int) × List (List Int)) =>
 (Is (intss c.snd) (intss x.fst) ∧ Is (intss d.snd) (intss x.snd) ∧ True) ∧
 SzL x.fst ∧ condP (!Decidable.decide (x.fst = x.snd)) (Bool.false = Decidable.decide (c = d)) (Bool.true = Decidable.decide (c = d)))) = Goal Try.prog [K_eqIntSS] ([]) K_eqCnf.1 K_eqCnf.2 ((c, d)) := by kernel_rfl

theorem vc_l5Ints (l m : List Int) : (condP ((↑l.length : Int) != (↑m.length : Int)) (Bool.false = Decidable.decide (l = m))
 ((Exists fun (x : Nat) =>
 (x ≤ l.length ∧ l.length = m.length ∧ (l = m ↔ List.drop x l = List.drop x m)) ∧ (Is (ints l) (ints l) ∧ Is (ints m) (ints m) ∧ (0 : Int) = (↑x : Int) ∧ True) ∧ True) ∧
 ∀ (x : Nat),
 x ≤ l.length ∧ l.length = m.length ∧ (l = m ↔ List.drop x l = List.drop x m) →
 condP (Decidable.decide ((↑x : Int) < (↑l.length : Int)))
 (((0 : Int) ≤ (↑x : Int) ∧ (↑x : Int) < (↑l.length : Int)) ∧
 x < l.length ∧
 ((0 : Int) ≤ (↑x : Int) ∧ (↑x : Int) < (↑m.length : Int)) ∧
 x < m.length ∧
 condP (l.getD x (0 : Int) != m.getD x (0 : Int)) (Bool.false = Decidable.decide (l = m))
 (Exists fun (x' : Nat) =>
 (x' ≤ l.length ∧ l.length = m.length ∧ (l = m ↔ List.drop x' l = List.drop x' m)) ∧
 l.length - x' < l.length - x ∧ (Is (ints l) (ints l) ∧ Is (ints m) (ints m) ∧ IntKind.i64.wrap ((↑x : Int) + (1 : Int)) = (↑x' : Int) ∧ True) ∧ True))
 (Bool.true = Decidable.decide (l = m)))) = Goal Try.prog [] (A_l5Ints l m) K_l5Ints.1 K_l5Ints.2 ((l, m)) := by kernel_rfl

theorem vc_slEqual (l m : List Int) : (condP ((↑l.length : Int) != (↑m.length : Int)) (Bool.false = Decidable.decide (l = m))
 ((Exists fun (x : Nat) =>
 (x ≤ l.length ∧ l.length = m.length ∧ (l = m ↔ List.drop x l = List.drop x m)) ∧
 (Is (ints l) (ints l) ∧ Is (ints m) (ints m) ∧ (↑l.length : Int) = (↑l.length : Int) ∧ (0 : Int) = (↑x : Int) ∧ True) ∧ True) ∧
 ∀ (x : Nat),
 x ≤ l.length ∧ l.length = m.length ∧ (l = m ↔ List.drop x l = List.drop x m) →
 condP (Decidable.decide ((↑x : Int) < (↑l.length : Int)))
 (((0 : Int) ≤ (↑x : Int) ∧ (↑x : Int) < (↑l.length : Int)) ∧
 x < l.length ∧
 ((0 : Int) ≤ (↑x : Int) ∧ (↑x : Int) < (↑m.length : Int)) ∧
 x < m.length ∧
 condP (l.getD x (0 : Int) != m.getD x (0 : Int)) (Bool.false = Decidable.decide (l = m))
 (Exists fun (x' : Nat) =>
 (x' ≤ l.length ∧ l.length = m.length ∧ (l = m ↔ List.drop x' l = List.drop x' m)) ∧
 l.length - x' < l.length - x ∧
 (Is (ints l) (ints l) ∧ Is (ints m) (ints m) ∧ (↑l.length : Int) = (↑l.length : Int) ∧ IntKind.i64.wrap ((↑x : Int) + (1 : Int)) = (↑x' : Int) ∧ True) ∧
 True))
 (Bool.true = Decidable.decide (l = m)))) = Goal Try.prog [] (A_slEqual l m) K_slEqual.1 K_slEqual.2 ((l, m)) := by kernel_rfl

theorem vc_sCnfSame (c d : Pl.Cnf) : (condP (c.fst != d.fst) (Bool.false = Decidable.decide (c = d))
 (condP ((↑c.snd.length : Int) != (↑d.snd.length : Int)) (Bool.false = Decidable.decide (c = d))
 ((Exists fun (x : Nat) =>
 (x ≤ c.snd.length ∧ c.snd.length = d.snd.length ∧ c.fst = d.fst ∧ (c.snd = d.snd ↔ List.drop x c.snd = List.drop x d.snd)) ∧
 ((0 : Nat) = (0 : Nat) ∧ (0 : Nat) = (0 : Nat) ∧ (0 : Int) = (↑x : Int) ∧ True) ∧
 (c.fst = c.fst ∧ Is (intss c.snd) (intss c.snd) ∧ True) ∧ (d.fst = d.fst ∧ Is (intss d.snd) (intss d.snd) ∧ True) ∧ True) ∧
 ∀ (x : Nat),
 x ≤ c.snd.length ∧ c.snd.length = d.snd.length ∧ c.fst = d.fst ∧ (c.snd = d.snd ↔ List.drop x c.snd = List.drop x d.snd) →
 condP (Decidable.decide ((↑x : Int) < (↑c.snd.length : Int)))
 (((0 : Int) ≤ (↑x : Int) ∧ (↑x : Int) < (↑c.snd.length : Int)) ∧
 x < c.snd.length ∧
 ((0 : Int) ≤ (↑x : Int) ∧ (↑x : Int) < (↑d.snd.length : Int)) ∧
 x < d.snd.length ∧
 Exists fun (x_1 : List Int × List Int) =>
 (Is (ints (c.snd.getD x [])) (ints x_1.fst) ∧ Is (ints (d.snd.getD x [])) (ints x_1.snd) ∧ True) ∧
 Sz x_1.fst ∧
 condP (!Decidable.decide (x_1.fst = x_1.snd)) (Bool.false = Decidable.decide (c = d))
 (Exists fun (x' : Nat) =>
 (x' ≤ c.snd.length ∧ c.snd.length = d.snd.length ∧ c.fst = d.fst ∧ (c.snd = d.snd ↔ List.drop x' c.snd = List.drop x' d.snd)) ∧
 c.snd.length - x' < c.snd.length - x ∧
 ((0 : Nat) = (0 : Nat) ∧ (0 : Nat) = (0 : Nat) ∧ IntKind.i64.wrap ((↑x : Int) + (1 : Int)) = (↑x' : Int) ∧ True) ∧
 (c.fst = c.fst ∧ Is (intss c.snd) (intss c.snd) ∧ True) ∧ (d.fst = d.fst ∧ Is (intss d.snd) (intss d.snd) ∧ True) ∧ True))
 (Bool.true = Decidable.decide (c = d))))) = Goal Try.prog [K_l5Ints] (A_sCnfSame c d) K_sCnfSame.1 K_sCnfSame.2 ((c, d)) := by kernel_rfl

theorem vc_EqualFuncInts (l m : List (List Int)) : (condP ((↑l.length : Int) != (↑m.length : Int)) (Bool.false = Decidable.decide (l = m))
 ((Exists fun (x : Nat) =>
 (x ≤ l.length ∧ l.length = m.length ∧ (l = m ↔ List.drop x l = List.drop x m)) ∧
 (Is (intss l) (intss l) ∧ Is (intss m) (intss m) ∧ True ∧ Is (intss l) (intss l) ∧ (↑l.length : Int) = (↑l.length : Int) ∧ (0 : Int) = (↑x : Int) ∧ True) ∧ True) ∧
 ∀ (x : Nat),
 x ≤ l.length ∧ l.length = m.length ∧ (l = m ↔ List.drop x l = List.drop x m) →
 condP (Decidable.decide ((↑x : Int) < (↑l.length : Int)))
 (((0 : Int) ≤ (↑x : Int) ∧ (↑x : Int) < (↑l.length : Int)) ∧
 x < l.length ∧
 ((0 : Int) ≤ (↑x : Int) ∧ (↑x : Int) < (↑m.length : Int)) ∧
 x < m.length ∧
 Exists fun (x_1 : List Int × List Int) =>
 (Is (ints (l.getD x [])) (ints x_1.fst) ∧ Is (ints (m.getD x [])) (ints x_1.snd) ∧ True) ∧
 Sz x_1.fst ∧
 condP (!Decidable.decide (x_1.fst = x_1.snd)) (Bool.false = Decidable.decide (l = m))
 (Exists fun (x' : Nat) =>
 (x' ≤ l.length ∧ l.length = m.length ∧ (l = m ↔ List.drop x' l = List.drop x' m)) ∧
 l.length - x' < l.length - x ∧
 (Is (intss l) (intss l) ∧
 Is (intss m) (intss m) ∧
 True ∧ Is (intss l) (intss l) ∧ (↑l.length : Int) = (↑l.length : Int) ∧ IntKind.i64.wrap ((↑x : Int) + (1 : Int)) = (↑x' : Int) ∧ True) ∧
 True))
 (Bool.true = Decidable.decide (l = m)))) = Goal Try.prog [K_slEqual] (A_EqualFuncInts l m) K_EqualFuncInts.1 K_EqualFuncInts.2 ((l, m)) := by kernel_rfl

theorem vc_iCnfSame (c d : Pl.Cnf) : (condP (c.fst == d.fst)
 (Exists fun (x : List (List Int) × List (List Int)) =>
 (Is (intss c.snd) (intss x.fst) ∧ Is (intss d.snd) (intss x.snd) ∧ True ∧ True) ∧ SzL x.fst ∧ Decidable.decide (x.fst = x.snd) = Decidable.decide (c = d))
 (Bool.false = Decidable.decide (c = d))) = Goal Try.prog [K_EqualFuncInts] ([]) K_iCnfSame.1 K_iCnfSame.2 ((c, d)) := by kernel_rfl

theorem vc_sCnfOk (c : Pl.Cnf) : (condP (Decidable.decide (c.fst < (0 : Int))) (Bool.false = Pl.cnfOk c)
 (condP (Decidable.decide (c.fst > (60 : Int))) (Bool.false = Pl.cnfOk c)
 (condP (Decidable.decide ((↑c.snd.length : Int) > (400 : Int))) (Bool.false = Pl.cnfOk c)
 ((Exists fun (x : Nat) =>
 (x ≤ c.snd.length ∧ Pl.cnfOk c = (List.drop x c.snd).all fun (y : List Int) => Pl.specClause y c.fst) ∧
 ((0 : Nat) = (0 : Nat) ∧ (0 : Int) = (↑x : Int) ∧ True) ∧ (c.fst = c.fst ∧ Is (intss c.snd) (intss c.snd) ∧ True) ∧ True) ∧
 ∀ (x : Nat),
 (x ≤ c.snd.length ∧ Pl.cnfOk c = (List.drop x c.snd).all fun (y : List Int) => Pl.specClause y c.fst) →
 condP (Decidable.decide ((↑x : Int) < (↑c.snd.length : Int)))
 (((0 : Int) ≤ (↑x : Int) ∧ (↑x : Int) < (↑c.snd.length : Int)) ∧
 x < c.snd.length ∧
 Exists fun (x_1 : List Int × Int) =>
 (Is (ints (c.snd.getD x [])) (ints x_1.fst) ∧ c.fst = x_1.snd ∧ True) ∧
 Sz x_1.fst ∧
 condP (!Pl.specClause x_1.fst x_1.snd) (Bool.false = Pl.cnfOk c)
 (Exists fun (x' : Nat) =>
 (x' ≤ c.snd.length ∧ Pl.cnfOk c = (List.drop x' c.snd).all fun (y : List Int) => Pl.specClause y c.fst) ∧
 c.snd.length - x' < c.snd.length - x ∧
 ((0 : Nat) = (0 : Nat) ∧ IntKind.i64.wrap ((↑x : Int) + (1 : Int)) = (↑x' : Int) ∧ True) ∧ (c.fst = c.fst ∧ Is (intss c.snd) (intss c.snd) ∧ True) ∧ True))
 (Bool.true = Pl.cnfOk c))))) = Goal Try.prog [K_sClauseOk] (A_sCnfOk c) K_sCnfOk.1 K_sCnfOk.2 (c) := by kernel_rfl

theorem vc_CnfOk1 (l : List Int) (c : Pl.Cnf) : ((0 : Nat) < (1 : Nat) ∧ Exists fun (x : List Int × Int) => (Is (ints l) (ints x.fst) ∧ c.fst = x.snd ∧ True) ∧ Sz x.fst ∧ (!Pl.implClause x.fst x.snd) = !Pl.specClause l c.fst) = Goal Try.prog [K_iClauseOk] ([]) K_CnfOk1.1 K_CnfOk1.2 ((l, c)) := by kernel_rfl

theorem vc_IndexCnfOk (l : List (List Int)) (c : Pl.Cnf) : ((Exists fun (x : Nat) =>
 (x ≤ l.length ∧
 Pl.idx (fun (x : List Int) => !Pl.specClause x c.fst) l =
 if Pl.idx (fun (x : List Int) => !Pl.specClause x c.fst) (List.drop x l) < (0 : Int) then (-1 : Int)
 else Pl.idx (fun (x : List Int) => !Pl.specClause x c.fst) (List.drop x l) + (↑x : Int)) ∧
 (Is (intss l) (intss l) ∧
 (Is (refs [i64 c.fst, intss c.snd]) (refs [i64 c.fst, intss c.snd]) ∧ True) ∧ (↑l.length : Int) = (↑l.length : Int) ∧ (0 : Int) = (↑x : Int) ∧ True) ∧
 True) ∧
 ∀ (x : Nat),
 (x ≤ l.length ∧
 Pl.idx (fun (x : List Int) => !Pl.specClause x c.fst) l =
 if Pl.idx (fun (x : List Int) => !Pl.specClause x c.fst) (List.drop x l) < (0 : Int) then (-1 : Int)
 else Pl.idx (fun (x : List Int) => !Pl.specClause x c.fst) (List.drop x l) + (↑x : Int)) →
 condP (Decidable.decide ((↑x : Int) < (↑l.length : Int)))
 (((0 : Int) ≤ (↑x : Int) ∧ (↑x : Int) < (↑l.length : Int)) ∧
 x < l.length ∧
 Exists fun (x_1 : List Int × Pl.Cnf) =>
 (Is (ints (l.getD x [])) (ints x_1.fst) ∧ Is (refs [i64 c.fst, intss c.snd]) (refs [i64 x_1.snd.fst, intss x_1.snd.snd]) ∧ True) ∧
 Sz x_1.fst ∧
 condP (!Pl.specClause x_1.fst x_1.snd.fst) ((↑x : Int) = Pl.idx (fun (y : List Int) => !Pl.specClause y c.fst) l)
 (Exists fun (x' : Nat) =>
 (x' ≤ l.length ∧
 Pl.idx (fun (x : List Int) => !Pl.specClause x c.fst) l =
 if Pl.idx (fun (x : List Int) => !Pl.specClause x c.fst) (List.drop x' l) < (0 : Int) then (-1 : Int)
 else Pl.idx (fun (x : List Int) => !Pl.specClause x c.fst) (List.drop x' l) + (↑x' : Int)) ∧
 l.length - x' < l.length - x ∧
 (Is (intss l) (intss l) ∧
 (Is (refs [i64 c.fst, intss c.snd]) (refs [i64 c.fst, intss c.snd]) ∧ True) ∧
 (↑l.length : Int) = (↑l.length : Int) ∧ IntKind.i64.wrap ((↑x : Int) + (1 : Int)) = (↑x' : Int) ∧ True) ∧
 True))
 ((-1 : Int) = Pl.idx (fun (y : List Int) => !Pl.specClause y c.fst) l)) = Goal Try.prog [K_CnfOk1] (A_IndexCnfOk l c) K_IndexCnfOk.1 K_IndexCnfOk.2 ((l, c)) := by kernel_rfl

theorem vc_ContainsCnfOk (l : List (List Int)) (c : Pl.Cnf) : (Exists fun (x : List (List Int) × Pl.Cnf) =>
 (Is (intss l) (intss x.fst) ∧ (Is (refs [i64 c.fst, intss c.snd]) (refs [i64 x.snd.fst, intss x.snd.snd]) ∧ True) ∧ True) ∧
 SzL x.fst ∧ Decidable.decide (Pl.idx (fun (y : List Int) => !Pl.specClause y x.snd.fst) x.fst ≥ (0 : Int)) = l.any fun (y : List Int) => !Pl.specClause y c.fst) = Goal Try.prog [K_IndexCnfOk] ([]) K_ContainsCnfOk.1 K_ContainsCnfOk.2 ((l, c)) := by kernel_rfl

theorem vc_iCnfOk (c : Pl.Cnf) : (Exists fun (x : Int × Int × Int) =>
 (c.fst = x.fst ∧ (0 : Int) = x.snd.fst ∧ (60 : Int) = x.snd.snd ∧ True) ∧
 True ∧
 condP (!Pl.withinI x.fst x.snd.fst x.snd.snd) (Bool.false = Pl.cnfOk c)
 (condP (Decidable.decide ((↑c.snd.length : Int) > (400 : Int))) (Bool.false = Pl.cnfOk c)
 (Exists fun (x : List (List Int) × Pl.Cnf) =>
 (Is (intss c.snd) (intss x.fst) ∧ (Is (refs [i64 c.fst, intss c.snd]) (refs [i64 x.snd.fst, intss x.snd.snd]) ∧ True) ∧ True) ∧
 SzL x.fst ∧ (!x.fst.any fun (y : List Int) => !Pl.specClause y x.snd.fst) = Pl.cnfOk c))) = Goal Try.prog [K_within, K_ContainsCnfOk] ([]) K_iCnfOk.1 K_iCnfOk.2 (c) := by kernel_rfl

theorem vc_sCnfIs (c : Pl.Cnf) (v : List Bool) : (Exists fun (x : Pl.Cnf) =>
 ((c.fst = x.fst ∧ Is (intss c.snd) (intss x.snd) ∧ True) ∧ True) ∧
 SzC x ∧
 condP (!Pl.cnfOk x) (Bool.false = Pl.cnfIs c v)
 (condP ((↑v.length : Int) != c.fst) (Bool.false = Pl.cnfIs c v)
 ((Exists fun (x : Nat) =>
 (x ≤ c.snd.length ∧ Pl.cnfIs c v = (List.drop x c.snd).all fun (y : List Int) => Pl.clauseIs y v) ∧
 (Is (bools v) (bools v) ∧ (0 : Nat) = (0 : Nat) ∧ (0 : Int) = (↑x : Int) ∧ True) ∧ (c.fst = c.fst ∧ Is (intss c.snd) (intss c.snd) ∧ True) ∧ True) ∧
 ∀ (x : Nat),
 (x ≤ c.snd.length ∧ Pl.cnfIs c v = (List.drop x c.snd).all fun (y : List Int) => Pl.clauseIs y v) →
 condP (Decidable.decide ((↑x : Int) < (↑c.snd.length : Int)))
 (((0 : Int) ≤ (↑x : Int) ∧ (↑x : Int) < (↑c.snd.length : Int)) ∧
 x < c.snd.length ∧
 Exists fun (x_1 : List Int × List Bool) =>
 (Is (ints (c.snd.getD x [])) (ints x_1.fst) ∧ Is (bools v) (bools x_1.snd) ∧ True) ∧
 (Sz x_1.fst ∧ Sz x_1.snd) ∧
 condP (!Pl.clauseIs x_1.fst x_1.snd) (Bool.false = Pl.cnfIs c v)
 (Exists fun (x' : Nat) =>
 (x' ≤ c.snd.length ∧ Pl.cnfIs c v = (List.drop x' c.snd).all fun (y : List Int) => Pl.clauseIs y v) ∧
 c.snd.length - x' < c.snd.length - x ∧
 (Is (bools v) (bools v) ∧ (0 : Nat) = (0 : Nat) ∧ IntKind.i64.wrap ((↑x : Int) + (1 : Int)) = (↑x' : Int) ∧ True) ∧
 (c.fst = c.fst ∧ Is (intss c.snd) (intss c.snd) ∧ True) ∧ True))
 (Bool.true = Pl.cnfIs c v)))) = Goal Try.prog [K_sCnfOk, K_sClauseIs] (A_sCnfIs c v) K_sCnfIs.1 K_sCnfIs.2 ((c, v)) := by kernel_rfl

theorem vc_CnfIs1 (l : List Int) (v : List Bool) : ((0 : Nat) < (1 : Nat) ∧
 Exists fun (x : List Int × List Bool) =>
 (Is (ints l) (ints x.fst) ∧ Is (bools v) (bools x.snd) ∧ True) ∧ (Sz x.fst ∧ Sz x.snd) ∧ (!Pl.clauseIs x.fst x.snd) = !Pl.clauseIs l v) = Goal Try.prog [K_iClauseIs] ([]) K_CnfIs1.1 K_CnfIs1.2 ((l, v)) := by kernel_rfl

theorem vc_IndexCnfIs (l : List (List Int)) (v : List Bool) : ((Exists fun (x : Nat) =>
 (x ≤ l.length ∧
 Pl.idx (fun (x : List Int) => !Pl.clauseIs x v) l =
 if Pl.idx (fun (x : List Int) => !Pl.clauseIs x v) (List.drop x l) < (0 : Int) then (-1 : Int) else Pl.idx (fun (x : List Int) => !Pl.clauseIs x v) (List.drop x l) + (↑x : Int)) ∧
 (Is (intss l) (intss l) ∧ (Is (refs [bools v]) (refs [bools v]) ∧ True) ∧ (↑l.length : Int) = (↑l.length : Int) ∧ (0 : Int) = (↑x : Int) ∧ True) ∧ True) ∧
 ∀ (x : Nat),
 (x ≤ l.length ∧
 Pl.idx (fun (x : List Int) => !Pl.clauseIs x v) l =
 if Pl.idx (fun (x : List Int) => !Pl.clauseIs x v) (List.drop x l) < (0 : Int) then (-1 : Int) else Pl.idx (fun (x : List Int) => !Pl.clauseIs x v) (List.drop x l) + (↑x : Int)) →
 condP (Decidable.decide ((↑x : Int) < (↑l.length : Int)))
 (((0 : Int) ≤ (↑x : Int) ∧ (↑x : Int) < (↑l.length : Int)) ∧
 x < l.length ∧
 Exists fun (x_1 : List Int × List Bool) =>
 (Is (ints (l.getD x [])) (ints x_1.fst) ∧ Is (refs [bools v]) (refs [bools x_1.snd]) ∧ True) ∧
 (Sz x_1.fst ∧ Sz x_1.snd) ∧
 condP (!Pl.clauseIs x_1.fst x_1.snd) ((↑x : Int) = Pl.idx (fun (y : List Int) => !Pl.clauseIs y v) l)
 (Exists fun (x' : Nat) =>
 (x' ≤ l.length ∧
 Pl.idx (fun (x : List Int) => !Pl.clauseIs x v) l =
 if Pl.idx (fun (x : List Int) => !Pl.clauseIs x v) (List.drop x' l) < (0 : Int) then (-1 : Int)
 else Pl.idx (fun (x : List Int) => !Pl.clauseIs x v) (List.drop x' l) + (↑x' : Int)) ∧
 l.length - x' < l.length - x ∧
 (Is (intss l) (intss l) ∧
 (Is (refs [bools v]) (refs [bools v]) ∧ True) ∧
 (↑l.length : Int) = (↑l.length : Int) ∧ IntKind.i64.wrap ((↑x : Int) + (1 : Int)) = (↑x' : Int) ∧ True) ∧
 True))
 ((-1 : Int) = Pl.idx (fun (y : List Int) => !Pl.clauseIs y v) l)) = Goal Try.prog [K_CnfIs1] (A_IndexCnfIs l v) K_IndexCnfIs.1 K_IndexCnfIs.2 ((l, v)) := by kernel_rfl

theorem vc_ContainsCnfIs (l : List (List Int)) (v : List Bool) : (Exists fun (x : List (List Int) × List Bool) =>
 (Is (intss l) (intss x.fst) ∧ (Is (refs [bools v]) (refs [bools x.snd]) ∧ True) ∧ True) ∧
 (SzL x.fst ∧ Sz x.snd) ∧ Decidable.decide (Pl.idx (fun (y : List Int) => !Pl.clauseIs y x.snd) x.fst ≥ (0 : Int)) = l.any fun (y : List Int) => !Pl.clauseIs y v) = Goal Try.prog [K_IndexCnfIs] ([]) K_ContainsCnfIs.1 K_ContainsCnfIs.2 ((l, v)) := by kernel_rfl

theorem vc_iCnfIs (c : Pl.Cnf) (v : List Bool) : (Exists fun (x : Pl.Cnf) =>
 ((c.fst = x.fst ∧ Is (intss c.snd) (intss x.snd) ∧ True) ∧ True) ∧
 SzC x ∧
 condP (Pl.cnfOk x)
 (condP ((↑v.length : Int) == c.fst)
 (Exists fun (x : List (List Int) × List Bool) =>
 (Is (intss c.snd) (intss x.fst) ∧ (Is (refs [bools v]) (refs [bools x.snd]) ∧ True) ∧ True) ∧
 (SzL x.fst ∧ Sz x.snd) ∧ (!x.fst.any fun (y : List Int) => !Pl.clauseIs y x.snd) = Pl.cnfIs c v)
 (Bool.false = Pl.cnfIs c v))
 (Bool.false = Pl.cnfIs c v)) = Goal Try.prog [K_iCnfOk, K_ContainsCnfIs] ([]) K_iCnfIs.1 K_iCnfIs.2 ((c, v)) := by kernel_rfl

theorem vc_xClauseOk (l : List Int) (m : Int) : (condP (Decidable.decide ((↑l.length : Int) > (1048576 : Int))) (Bool.true = Bool.true)
 (Exists fun (x : List Int) =>
 (Is (ints l) (ints x) ∧ True) ∧
 Sz x ∧
 Exists fun (x_1 : List Int × Int) =>
 (Is (ints x) (ints x_1.fst) ∧ m = x_1.snd ∧ True) ∧
 Sz x_1.fst ∧
 Exists fun (x : List Int) =>
 (Is (ints l) (ints x) ∧ True) ∧
 Sz x ∧
 Exists fun (x_2 : List Int × Int) =>
 (Is (ints x) (ints x_2.fst) ∧ m = x_2.snd ∧ True) ∧
 Sz x_2.fst ∧
 condP (!Pl.implClause x_2.fst x_2.snd == Pl.specClause x_1.fst x_1.snd) (Bool.false = Bool.true)
 (Exists fun (x_3 : List Int) =>
 (Is (ints l) (ints x_3) ∧ True) ∧
 Sz x_3 ∧
 Exists fun (x_4 : List Int × List Int) =>
 (Is (ints x) (ints x_4.fst) ∧ Is (ints x_3) (ints x_4.snd) ∧ True) ∧
 Sz x_4.fst ∧ condP (!Decidable.decide (x_4.fst = x_4.snd)) (Bool.false = Bool.true) (Bool.true = Bool.true)))) = Goal Try.prog [K_toIntS, K_sClauseOk, K_iClauseOk, K_eqIntS] ([]) K_xClauseOk.1 K_xClauseOk.2 ((l, m)) := by kernel_rfl

theorem vc_xCnfSame (c d : Pl.Cnf) : (Exists fun (x : Pl.Cnf × Int) =>
 ((c.fst = x.fst.fst ∧ Is (intss c.snd) (intss x.fst.snd) ∧ True) ∧ (1048576 : Int) = x.snd ∧ True) ∧
 (MlL x.fst.snd ∧ Fu x.snd) ∧
 condP (Decidable.decide (Pl.szSS x.fst.snd x.snd < (0 : Int))) (Bool.true = Bool.true)
 (Exists fun (x_1 : Pl.Cnf × Int) =>
 ((d.fst = x_1.fst.fst ∧ Is (intss d.snd) (intss x_1.fst.snd) ∧ True) ∧ Pl.szSS x.fst.snd x.snd = x_1.snd ∧ True) ∧
 (MlL x_1.fst.snd ∧ Fu x_1.snd) ∧
 condP (Decidable.decide (Pl.szSS x_1.fst.snd x_1.snd < (0 : Int))) (Bool.true = Bool.true)
 (Exists fun (x : Pl.Cnf) =>
 ((c.fst = x.fst ∧ Is (intss c.snd) (intss x.snd) ∧ True) ∧ True) ∧
 SzC x ∧
 Exists fun (x_2 : Pl.Cnf) =>
 ((d.fst = x_2.fst ∧ Is (intss d.snd) (intss x_2.snd) ∧ True) ∧ True) ∧
 SzC x_2 ∧
 Exists fun (x_3 : Pl.Cnf × Pl.Cnf) =>
 ((x.fst = x_3.fst.fst ∧ Is (intss x.snd) (intss x_3.fst.snd) ∧ True) ∧ (x_2.fst = x_3.snd.fst ∧ Is (intss x_2.snd) (intss x_3.snd.snd) ∧ True) ∧ True) ∧
 SzC x_3.fst ∧
 Exists fun (x : Pl.Cnf) =>
 ((c.fst = x.fst ∧ Is (intss c.snd) (intss x.snd) ∧ True) ∧ True) ∧
 SzC x ∧
 Exists fun (x_4 : Pl.Cnf) =>
 ((d.fst = x_4.fst ∧ Is (intss d.snd) (intss x_4.snd) ∧ True) ∧ True) ∧
 SzC x_4 ∧
 Exists fun (x_5 : Pl.Cnf × Pl.Cnf) =>
 ((x.fst = x_5.fst.fst ∧ Is (intss x.snd) (intss x_5.fst.snd) ∧ True) ∧
 (x_4.fst = x_5.snd.fst ∧ Is (intss x_4.snd) (intss x_5.snd.snd) ∧ True) ∧ True) ∧
 SzC x_5.fst ∧
 condP (!Decidable.decide (x_5.fst = x_5.snd) == Decidable.decide (x_3.fst = x_3.snd)) (Bool.false = Bool.true)
 (Exists fun (x_6 : Pl.Cnf) =>
 ((c.fst = x_6.fst ∧ Is (intss c.snd) (intss x_6.snd) ∧ True) ∧ True) ∧
 SzC x_6 ∧
 Exists fun (x_7 : Pl.Cnf × Pl.Cnf) =>
 ((x.fst = x_7.fst.fst ∧ Is (intss x.snd) (intss x_7.fst.snd) ∧ True) ∧
 (x_6.fst = x_7.snd.fst ∧ Is (intss x_6.snd) (intss x_7.snd.snd) ∧ True) ∧ True) ∧
 SzC x_7.fst ∧
 condP (!Decidable.decide (x_7.fst = x_7.snd)) (Bool.false = Bool.true)
 (Exists fun (x : Pl.Cnf) =>
 ((d.fst = x.fst ∧ Is (intss d.snd) (intss x.snd) ∧ True) ∧ True) ∧
 SzC x ∧
 Exists fun (x_8 : Pl.Cnf × Pl.Cnf) =>
 ((x_4.fst = x_8.fst.fst ∧ Is (intss x_4.snd) (intss x_8.fst.snd) ∧ True) ∧
 (x.fst = x_8.snd.fst ∧ Is (intss x.snd) (intss x_8.snd.snd) ∧ True) ∧ True) ∧
 SzC x_8.fst ∧ condP (!Decidable.decide (x_8.fst = x_8.snd)) (Bool.false = Bool.true) (Bool.true = Bool.true)))))) = Goal Try.prog [K_szCnf, K_toCnf, K_sCnfSame, K_iCnfSame, K_eqCnf] ([]) K_xCnfSame.1 K_xCnfSame.2 ((c, d)) := by kernel_rfl

theorem vc_xCnfOk (c : Pl.Cnf) : (Exists fun (x : Pl.Cnf × Int) =>
 ((c.fst = x.fst.fst ∧ Is (intss c.snd) (intss x.fst.snd) ∧ True) ∧ (1048576 : Int) = x.snd ∧ True) ∧
 (MlL x.fst.snd ∧ Fu x.snd) ∧
 condP (Decidable.decide (Pl.szSS x.fst.snd x.snd < (0 : Int))) (Bool.true = Bool.true)
 (Exists fun (x : Pl.Cnf) =>
 ((c.fst = x.fst ∧ Is (intss c.snd) (intss x.snd) ∧ True) ∧ True) ∧
 SzC x ∧
 Exists fun (x_1 : Pl.Cnf) =>
 ((x.fst = x_1.fst ∧ Is (intss x.snd) (intss x_1.snd) ∧ True) ∧ True) ∧
 SzC x_1 ∧
 Exists fun (x : Pl.Cnf) =>
 ((c.fst = x.fst ∧ Is (intss c.snd) (intss x.snd) ∧ True) ∧ True) ∧
 SzC x ∧
 Exists fun (x_2 : Pl.Cnf) =>
 ((x.fst = x_2.fst ∧ Is (intss x.snd) (intss x_2.snd) ∧ True) ∧ True) ∧
 SzC x_2 ∧
 condP (!Pl.cnfOk x_2 == Pl.cnfOk x_1) (Bool.false = Bool.true)
 (Exists fun (x_3 : Pl.Cnf) =>
 ((c.fst = x_3.fst ∧ Is (intss c.snd) (intss x_3.snd) ∧ True) ∧ True) ∧
 SzC x_3 ∧
 Exists fun (x_4 : Pl.Cnf × Pl.Cnf) =>
 ((x.fst = x_4.fst.fst ∧ Is (intss x.snd) (intss x_4.fst.snd) ∧ True) ∧
 (x_3.fst = x_4.snd.fst ∧ Is (intss x_3.snd) (intss x_4.snd.snd) ∧ True) ∧ True) ∧
 SzC x_4.fst ∧ condP (!Decidable.decide (x_4.fst = x_4.snd)) (Bool.false = Bool.true) (Bool.true = Bool.true)))) = Goal Try.prog [K_szCnf, K_toCnf, K_sCnfOk, K_iCnfOk, K_eqCnf] ([]) K_xCnfOk.1 K_xCnfOk.2 (c) := by kernel_rfl

theorem vc_xCnfIs (c : Pl.Cnf) (v : List Bool) : (condP (Decidable.decide ((↑v.length : Int) > (1048576 : Int))) (Bool.true = Bool.true)
 (Exists fun (x : Pl.Cnf × Int) =>
 ((c.fst = x.fst.fst ∧ Is (intss c.snd) (intss x.fst.snd) ∧ True) ∧ (1048576 : Int) = x.snd ∧ True) ∧
 (MlL x.fst.snd ∧ Fu x.snd) ∧
 condP (Decidable.decide (Pl.szSS x.fst.snd x.snd < (0 : Int))) (Bool.true = Bool.true)
 (Exists fun (x : Pl.Cnf) =>
 ((c.fst = x.fst ∧ Is (intss c.snd) (intss x.snd) ∧ True) ∧ True) ∧
 SzC x ∧
 Exists fun (x_1 : List Bool) =>
 (Is (bools v) (bools x_1) ∧ True) ∧
 Sz x_1 ∧
 Exists fun (x_2 : Pl.Cnf × List Bool) =>
 ((x.fst = x_2.fst.fst ∧ Is (intss x.snd) (intss x_2.fst.snd) ∧ True) ∧ Is (bools x_1) (bools x_2.snd) ∧ True) ∧
 (SzC x_2.fst ∧ Sz x_2.snd) ∧
 Exists fun (x : Pl.Cnf) =>
 ((c.fst = x.fst ∧ Is (intss c.snd) (intss x.snd) ∧ True) ∧ True) ∧
 SzC x ∧
 Exists fun (x_3 : List Bool) =>
 (Is (bools v) (bools x_3) ∧ True) ∧
 Sz x_3 ∧
 Exists fun (x_4 : Pl.Cnf × List Bool) =>
 ((x.fst = x_4.fst.fst ∧ Is (intss x.snd) (intss x_4.fst.snd) ∧ True) ∧ Is (bools x_3) (bools x_4.snd) ∧ True) ∧
 (SzC x_4.fst ∧ Sz x_4.snd) ∧
 condP (!Pl.cnfIs x_4.fst x_4.snd == Pl.cnfIs x_2.fst x_2.snd) (Bool.false = Bool.true)
 (Exists fun (x_5 : Pl.Cnf) =>
 ((c.fst = x_5.fst ∧ Is (intss c.snd) (intss x_5.snd) ∧ True) ∧ True) ∧
 SzC x_5 ∧
 Exists fun (x_6 : Pl.Cnf × Pl.Cnf) =>
 ((x.fst = x_6.fst.fst ∧ Is (intss x.snd) (intss x_6.fst.snd) ∧ True) ∧
 (x_5.fst = x_6.snd.fst ∧ Is (intss x_5.snd) (intss x_6.snd.snd) ∧ True) ∧ True) ∧
 SzC x_6.fst ∧
 condP (!Decidable.decide (x_6.fst = x_6.snd)) (Bool.false = Bool.true)
 (Exists fun (x : List Bool) =>
 (Is (bools v) (bools x) ∧ True) ∧
 Sz x ∧
 Exists fun (x_7 : List Bool × List Bool) =>
 (Is (bools x_3) (bools x_7.fst) ∧ Is (bools x) (bools x_7.snd) ∧ True) ∧
 Sz x_7.fst ∧ condP (!Decidable.decide (x_7.fst = x_7.snd)) (Bool.false = Bool.true) (Bool.true = Bool.true)))))) = Goal Try.prog [K_szCnf, K_toCnf, K_sCnfIs, K_iCnfIs, K_eqCnf, K_toBoolS, K_eqBoolS] ([]) K_xCnfIs.1 K_xCnfIs.2 ((c, v)) := by kernel_rfl

end Cg
