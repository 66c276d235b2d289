/-
  What is left to show of each function's code, printed by a program: Rows. No condition.
-/
import Derived.Test.YtgobdkgdhmkegaaRowsDefs
import Derived.Test.YtgobdkgdhmkegaaProg
set_option maxRecDepth 100000
set_option linter.unusedVariables false
namespace Cg
open Go Go.Proofs
theorem vc_szIntS (l : List Int) (k : Int) : (condP (Decidable.decide (IntKind.i64.wrap (k - (↑l.length : Int)) < (0 : Int))) ((-1 : Int) = Pl.sz1 l.length k) (IntKind.i64.wrap (k - (↑l.length : Int)) = Pl.sz1 l.length k)) = Goal Try.prog [] ([]) K_szIntS.1 K_szIntS.2 ((l, k)) := by kernel_rfl

theorem vc_szIntSS (l : List (List Int)) (k : Int) : (condP (Decidable.decide (IntKind.i64.wrap (k - (↑l.length : Int)) < (0 : Int))) ((-1 : Int) = Pl.szSS l k)
 ((Exists fun (x : Nat × Int) =>
 (x.fst ≤ l.length ∧ Fu x.snd ∧ Pl.szSS l k = Pl.szL (List.drop x.fst l) x.snd) ∧
 (Is (intss l) (intss l) ∧ IntKind.i64.wrap (k - (↑l.length : Int)) = x.snd ∧ (0 : Int) = (↑x.fst : Int) ∧ True) ∧ True) ∧
 ∀ (x : Nat × Int),
 x.fst ≤ l.length ∧ Fu x.snd ∧ Pl.szSS l k = Pl.szL (List.drop x.fst l) x.snd →
 condP (Decidable.decide ((↑x.fst : Int) < (↑l.length : Int)))
 (((0 : Int) ≤ (↑x.fst : Int) ∧ (↑x.fst : Int) < (↑l.length : Int)) ∧
 x.fst < l.length ∧
 Exists fun (x_1 : List Int × Int) =>
 (Is (ints (l.getD x.fst [])) (ints x_1.fst) ∧ x.snd = x_1.snd ∧ True) ∧
 (Ml x_1.fst ∧ Fu x_1.snd) ∧
 condP (Decidable.decide (Pl.sz1 x_1.fst.length x_1.snd < (0 : Int))) ((-1 : Int) = Pl.szSS l k)
 (Exists fun (x' : Nat × Int) =>
 (x'.fst ≤ l.length ∧ Fu x'.snd ∧ Pl.szSS l k = Pl.szL (List.drop x'.fst l) x'.snd) ∧
 l.length - x'.fst < l.length - x.fst ∧
 (Is (intss l) (intss l) ∧ Pl.sz1 x_1.fst.length x_1.snd = x'.snd ∧ IntKind.i64.wrap ((↑x.fst : Int) + (1 : Int)) = (↑x'.fst : Int) ∧ True) ∧ True))
 (x.snd = Pl.szSS l k))) = Goal Try.prog [K_szIntS] (A_szIntSS l k) K_szIntSS.1 K_szIntSS.2 ((l, k)) := by kernel_rfl

theorem vc_toIntSS (l : List (List Int)) : ((0 : Int) ≤ (↑l.length : Int) ∧
 (↑l.length : Int) ≤ (↑l.length : Int) ∧
 (↑(24 : Nat) : Int) * (↑l.length : Int) ≤ (140737488355328 : Int) ∧
 (↑l.length : Int) ≤ (140737488355328 : Int) ∧
 (Exists fun (x : Nat × List (List Int)) =>
 (x.fst ≤ l.length ∧ x.snd.length = l.length ∧ List.take x.fst x.snd = List.take x.fst l) ∧
 (Is (intss l) (intss l) ∧ ((0 : Nat) = (0 : Nat) ∧ l.length = x.snd.length) ∧ (0 : Int) = (↑x.fst : Int) ∧ True) ∧
 IsO (AObj.arr l.length (1 : Nat) fun (x j : Nat) => [AV.lit (0 : Nat) (1 : Nat) fun (x x_1 : Nat) => AV.any].getD j AV.any) (arII x.snd) ∧ True) ∧
 ∀ (x : Nat × List (List Int)),
 x.fst ≤ l.length ∧ x.snd.length = l.length ∧ List.take x.fst x.snd = List.take x.fst l →
 condP (Decidable.decide ((↑x.fst : Int) < (↑l.length : Int)))
 (((0 : Int) ≤ (↑x.fst : Int) ∧ (↑x.fst : Int) < (↑l.length : Int)) ∧
 x.fst < l.length ∧
 Exists fun (x_1 : List Int) =>
 (Is (ints (l.getD x.fst [])) (ints x_1) ∧ True) ∧
 Sz x_1 ∧
 ((0 : Int) ≤ (↑x.fst : Int) ∧ (↑x.fst : Int) < (↑x.snd.length : Int)) ∧
 x.fst < x.snd.length ∧
 Exists fun (x' : Nat × List (List Int)) =>
 (x'.fst ≤ l.length ∧ x'.snd.length = l.length ∧ List.take x'.fst x'.snd = List.take x'.fst l) ∧
 l.length - x'.fst < l.length - x.fst ∧
 (Is (intss l) (intss l) ∧
 ((0 : Nat) = (0 : Nat) ∧ x.snd.length = x'.snd.length) ∧ IntKind.i64.wrap ((↑x.fst : Int) + (1 : Int)) = (↑x'.fst : Int) ∧ True) ∧
 IsO (AObj.arr x.snd.length (1 : Nat) (storeC (cII x.snd) x.fst (0 : Nat) [ints x_1])) (arII x'.snd) ∧ True)
 ((0 : Nat) + x.snd.length ≤ x.snd.length ∧ Is (intss x.snd) (intss l))) = Goal Try.prog [K_toIntS] (A_toIntSS l) K_toIntSS.1 K_toIntSS.2 (l) := by kernel_rfl

theorem vc_eqIntSS (l m : List (List Int)) : (condP ((↑l.length : Int) != (↑m.length : Int)) (Bool.false = Decidable.decide (l = m))
 ((Exists fun (x : Nat) =>
 (x ≤ l.length ∧ l.length = m.length ∧ (l = m ↔ List.drop x l = List.drop x m)) ∧ (Is (intss l) (intss l) ∧ Is (intss m) (intss m) ∧ (0 : Int) = (↑x : Int) ∧ True) ∧ True) ∧
 ∀ (x : Nat),
 x ≤ l.length ∧ l.length = m.length ∧ (l = m ↔ List.drop x l = List.drop x m) →
 condP (Decidable.decide ((↑x : Int) < (↑l.length : Int)))
 (((0 : Int) ≤ (↑x : Int) ∧ (↑x : Int) < (↑l.length : Int)) ∧
 x < l.length ∧
 ((0 : Int) ≤ (↑x : Int) ∧ (↑x : Int) < (↑m.length : Int)) ∧
 x < m.length ∧
 Exists fun (x_1 : List Int × List Int) =>
 (Is (ints (l.getD x [])) (ints x_1.fst) ∧ Is (ints (m.getD x [])) (ints x_1.snd) ∧ True) ∧
 Sz x_1.fst ∧
 condP (!Decidable.decide (x_1.fst = x_1.snd)) (Bool.false = Decidable.decide (l = m))
 (Exists fun (x' : Nat) =>
 (x' ≤ l.length ∧ l.length = m.length ∧ (l = m ↔ List.drop x' l = List.drop x' m)) ∧
 l.length - x' < l.length - x ∧
 (Is (intss l) (intss l) ∧ Is (intss m) (intss m) ∧ IntKind.i64.wrap ((↑x : Int) + (1 : Int)) = (↑x' : Int) ∧ True) ∧ True))
 (Bool.true = Decidable.decide (l = m)))) = Goal Try.prog [K_eqIntS] (A_eqIntSS l m) K_eqIntSS.1 K_eqIntSS.2 ((l, m)) := by kernel_rfl

theorem vc_sLogEnds (l : List (List Int)) : (condP (Decidable.decide ((↑l.length : Int) > (0 : Int)))
 (((0 : Int) ≤ IntKind.i64.wrap ((↑l.length : Int) - (1 : Int)) ∧ IntKind.i64.wrap ((↑l.length : Int) - (1 : Int)) < (↑l.length : Int)) ∧
 (IntKind.i64.wrap ((↑l.length : Int) - (1 : Int))).toNat < l.length ∧ ((↑(l.getD (IntKind.i64.wrap ((↑l.length : Int) - (1 : Int))).toNat []).length : Int) == (0 : Int)) = Pl.logEnds l)
 (Bool.false = Pl.logEnds l)) = Goal Try.prog [] ([]) K_sLogEnds.1 K_sLogEnds.2 (l) := by kernel_rfl

theorem vc_iLogEnds (l : List (List Int)) : (condP (Decidable.decide ((↑l.length : Int) > (0 : Int)))
 (((0 : Int) ≤ IntKind.i64.wrap ((↑l.length : Int) - (1 : Int)) ∧ IntKind.i64.wrap ((↑l.length : Int) - (1 : Int)) < (↑l.length : Int)) ∧
 (IntKind.i64.wrap ((↑l.length : Int) - (1 : Int))).toNat < l.length ∧ ((↑(l.getD (IntKind.i64.wrap ((↑l.length : Int) - (1 : Int))).toNat []).length : Int) == (0 : Int)) = Pl.logEnds l)
 (Bool.false = Pl.logEnds l)) = Goal Try.prog [] ([]) K_iLogEnds.1 K_iLogEnds.2 (l) := by kernel_rfl

theorem vc_eqBoolS (l m : List Bool) : (condP ((↑l.length : Int) != (↑m.length : Int)) (Bool.false = Decidable.decide (l = m))
 ((Exists fun (x : Nat) =>
 (x ≤ l.length ∧ l.length = m.length ∧ (l = m ↔ List.drop x l = List.drop x m)) ∧ (Is (bools l) (bools l) ∧ Is (bools m) (bools m) ∧ (0 : Int) = (↑x : Int) ∧ True) ∧ True) ∧
 ∀ (x : Nat),
 x ≤ l.length ∧ l.length = m.length ∧ (l = m ↔ List.drop x l = List.drop x m) →
 condP (Decidable.decide ((↑x : Int) < (↑l.length : Int)))
 (((0 : Int) ≤ (↑x : Int) ∧ (↑x : Int) < (↑l.length : Int)) ∧
 x < l.length ∧
 ((0 : Int) ≤ (↑x : Int) ∧ (↑x : Int) < (↑m.length : Int)) ∧
 x < m.length ∧
 condP (!l.getD x Bool.false == m.getD x Bool.false) (Bool.false = Decidable.decide (l = m))
 (Exists fun (x' : Nat) =>
 (x' ≤ l.length ∧ l.length = m.length ∧ (l = m ↔ List.drop x' l = List.drop x' m)) ∧
 l.length - x' < l.length - x ∧ (Is (bools l) (bools l) ∧ Is (bools m) (bools m) ∧ IntKind.i64.wrap ((↑x : Int) + (1 : Int)) = (↑x' : Int) ∧ True) ∧ True))
 (Bool.true = Decidable.decide (l = m)))) = Goal Try.prog [] (A_eqBoolS l m) K_eqBoolS.1 K_eqBoolS.2 ((l, m)) := by kernel_rfl

theorem vc_l10Is (x : Int) (v : List Bool) : (condP (x == (0 : Int)) (Bool.false = Pl.lIs x v)
 (condP (Decidable.decide (x > (↑v.length : Int))) (Bool.false = Pl.lIs x v)
 (condP (Decidable.decide (x < IntKind.i64.wrap ((0 : Int) - (↑v.length : Int)))) (Bool.false = Pl.lIs x v)
 (condP (Decidable.decide (x < (0 : Int)))
 (((0 : Int) ≤ IntKind.i64.wrap ((-1 : Int) - x) ∧ IntKind.i64.wrap ((-1 : Int) - x) < (↑v.length : Int)) ∧
 (IntKind.i64.wrap ((-1 : Int) - x)).toNat < v.length ∧ (!v.getD (IntKind.i64.wrap ((-1 : Int) - x)).toNat Bool.false) = Pl.lIs x v)
 (((0 : Int) ≤ IntKind.i64.wrap (x - (1 : Int)) ∧ IntKind.i64.wrap (x - (1 : Int)) < (↑v.length : Int)) ∧
 (IntKind.i64.wrap (x - (1 : Int))).toNat < v.length ∧ v.getD (IntKind.i64.wrap (x - (1 : Int))).toNat Bool.false = Pl.lIs x v))))) = Goal Try.prog [] ([]) K_l10Is.1 K_l10Is.2 ((x, v)) := by kernel_rfl

theorem vc_isTrue (x : Int) (v : List Bool) : (condP (x == (0 : Int)) (Bool.false = Pl.lIs x v)
 (Exists fun (x_1 : Int × Int × Int) =>
 (x = x_1.fst ∧ IntKind.i64.wrap ((0 : Int) - (↑v.length : Int)) = x_1.snd.fst ∧ (↑v.length : Int) = x_1.snd.snd ∧ True) ∧
 True ∧
 condP (!Pl.withinI x_1.fst x_1.snd.fst x_1.snd.snd) (Bool.false = Pl.lIs x v)
 (Exists fun (x_2 : Int) =>
 (x = x_2 ∧ True) ∧
 True ∧
 ((0 : Int) ≤ IntKind.i64.wrap (Pl.varI x_2 - (1 : Int)) ∧ IntKind.i64.wrap (Pl.varI x_2 - (1 : Int)) < (↑v.length : Int)) ∧
 (IntKind.i64.wrap (Pl.varI x_2 - (1 : Int))).toNat < v.length ∧
 (v.getD (IntKind.i64.wrap (Pl.varI x_2 - (1 : Int))).toNat Bool.false == Decidable.decide (x > (0 : Int))) = Pl.lIs x v))) = Goal Try.prog [K_variable, K_within] ([]) K_isTrue.1 K_isTrue.2 ((x, v)) := by kernel_rfl

theorem vc_sClauseIs (l : List Int) (v : List Bool) : ((Exists fun (x : Nat) => (x ≤ l.length ∧ Pl.clauseIs l v = Pl.clauseIs (List.drop x l) v) ∧ (Is (ints l) (ints l) ∧ Is (bools v) (bools v) ∧ (0 : Int) = (↑x : Int) ∧ True) ∧ True) ∧
 ∀ (x : Nat),
 x ≤ l.length ∧ Pl.clauseIs l v = Pl.clauseIs (List.drop x l) v →
 condP (Decidable.decide ((↑x : Int) < (↑l.length : Int)))
 (((0 : Int) ≤ (↑x : Int) ∧ (↑x : Int) < (↑l.length : Int)) ∧
 x < l.length ∧
 condP (l.getD x (0 : Int) != (0 : Int))
 (((0 : Int) ≤ (↑x : Int) ∧ (↑x : Int) < (↑l.length : Int)) ∧
 x < l.length ∧
 Exists fun (x_1 : Int × List Bool) =>
 (l.getD x (0 : Int) = x_1.fst ∧ Is (bools v) (bools x_1.snd) ∧ True) ∧
 Sz x_1.snd ∧
 condP (Pl.lIs x_1.fst x_1.snd) (Bool.true = Pl.clauseIs l v)
 (Exists fun (x' : Nat) =>
 (x' ≤ l.length ∧ Pl.clauseIs l v = Pl.clauseIs (List.drop x' l) v) ∧
 l.length - x' < l.length - x ∧
 (Is (ints l) (ints l) ∧ Is (bools v) (bools v) ∧ IntKind.i64.wrap ((↑x : Int) + (1 : Int)) = (↑x' : Int) ∧ True) ∧ True))
 (Exists fun (x' : Nat) =>
 (x' ≤ l.length ∧ Pl.clauseIs l v = Pl.clauseIs (List.drop x' l) v) ∧
 l.length - x' < l.length - x ∧ (Is (ints l) (ints l) ∧ Is (bools v) (bools v) ∧ IntKind.i64.wrap ((↑x : Int) + (1 : Int)) = (↑x' : Int) ∧ True) ∧ True))
 (Bool.false = Pl.clauseIs l v)) = Goal Try.prog [K_l10Is] (A_sClauseIs l v) K_sClauseIs.1 K_sClauseIs.2 ((l, v)) := by kernel_rfl

theorem vc_ClauseIs1 (x : Int) (v : List Bool) : ((0 : Nat) < (1 : Nat) ∧ Exists fun (x_1 : Int × List Bool) => (x = x_1.fst ∧ Is (bools v) (bools x_1.snd) ∧ True) ∧ Sz x_1.snd ∧ Pl.lIs x_1.fst x_1.snd = Pl.lIs x v) = Goal Try.prog [K_isTrue] ([]) K_ClauseIs1.1 K_ClauseIs1.2 ((x, v)) := by kernel_rfl

theorem vc_IndexClauseIs (l : List Int) (v : List Bool) : ((Exists fun (x : Nat) =>
 (x ≤ l.length ∧
 Pl.idx (fun (x : Int) => Pl.lIs x v) l =
 if Pl.idx (fun (x : Int) => Pl.lIs x v) (List.drop x l) < (0 : Int) then (-1 : Int) else Pl.idx (fun (x : Int) => Pl.lIs x v) (List.drop x l) + (↑x : Int)) ∧
 (Is (ints l) (ints l) ∧ (Is (refs [bools v]) (refs [bools v]) ∧ True) ∧ (↑l.length : Int) = (↑l.length : Int) ∧ (0 : Int) = (↑x : Int) ∧ True) ∧ True) ∧
 ∀ (x : Nat),
 (x ≤ l.length ∧
 Pl.idx (fun (x : Int) => Pl.lIs x v) l =
 if Pl.idx (fun (x : Int) => Pl.lIs x v) (List.drop x l) < (0 : Int) then (-1 : Int) else Pl.idx (fun (x : Int) => Pl.lIs x v) (List.drop x l) + (↑x : Int)) →
 condP (Decidable.decide ((↑x : Int) < (↑l.length : Int)))
 (((0 : Int) ≤ (↑x : Int) ∧ (↑x : Int) < (↑l.length : Int)) ∧
 x < l.length ∧
 Exists fun (x_1 : Int × List Bool) =>
 (l.getD x (0 : Int) = x_1.fst ∧ Is (refs [bools v]) (refs [bools x_1.snd]) ∧ True) ∧
 Sz x_1.snd ∧
 condP (Pl.lIs x_1.fst x_1.snd) ((↑x : Int) = Pl.idx (fun (y : Int) => Pl.lIs y v) l)
 (Exists fun (x' : Nat) =>
 (x' ≤ l.length ∧
 Pl.idx (fun (x : Int) => Pl.lIs x v) l =
 if Pl.idx (fun (x : Int) => Pl.lIs x v) (List.drop x' l) < (0 : Int) then (-1 : Int) else Pl.idx (fun (x : Int) => Pl.lIs x v) (List.drop x' l) + (↑x' : Int)) ∧
 l.length - x' < l.length - x ∧
 (Is (ints l) (ints l) ∧
 (Is (refs [bools v]) (refs [bools v]) ∧ True) ∧
 (↑l.length : Int) = (↑l.length : Int) ∧ IntKind.i64.wrap ((↑x : Int) + (1 : Int)) = (↑x' : Int) ∧ True) ∧
 True))
 ((-1 : Int) = Pl.idx (fun (y : Int) => Pl.lIs y v) l)) = Goal Try.prog [K_ClauseIs1] (A_IndexClauseIs l v) K_IndexClauseIs.1 K_IndexClauseIs.2 ((l, v)) := by kernel_rfl

theorem vc_ContainsClauseIs (l : List Int) (v : List Bool) : (Exists fun (x : List Int × List Bool) =>
 (Is (ints l) (ints x.fst) ∧ (Is (refs [bools v]) (refs [bools x.snd]) ∧ True) ∧ True) ∧
 (Sz x.fst ∧ Sz x.snd) ∧ Decidable.decide (Pl.idx (fun (y : Int) => Pl.lIs y x.snd) x.fst ≥ (0 : Int)) = Pl.clauseIs l v) = Goal Try.prog [K_IndexClauseIs] ([]) K_ContainsClauseIs.1 K_ContainsClauseIs.2 ((l, v)) := by kernel_rfl

theorem vc_iClauseIs (l : List Int) (v : List Bool) : (Exists fun (x : List Int × List Bool) =>
 (Is (ints l) (ints x.fst) ∧ (Is (refs [bools v]) (refs [bools x.snd]) ∧ True) ∧ True) ∧ (Sz x.fst ∧ Sz x.snd) ∧ Pl.clauseIs x.fst x.snd = Pl.clauseIs l v) = Goal Try.prog [K_ContainsClauseIs] ([]) K_iClauseIs.1 K_iClauseIs.2 ((l, v)) := by kernel_rfl

end Cg
