/-
  What is left to show of each function's code, printed by a program: Sig. No condition.
-/
import Derived.Test.YtjhiaobcbbnhnaaGreatSigDefs
import Derived.Test.YtjhiaobcbbnhnaaGreatProg
set_option maxRecDepth 100000
set_option linter.unusedVariables false
namespace Cg
open Go Go.Proofs
theorem vc_szSym (x : Pl.Sym) (k : Int) : (condP (Decidable.decide (IntKind.i64.wrap (k - (↑x.fst.size : Int)) < (0 : Int))) ((-1 : Int) = Pl.lim (k - (↑(Pl.costY x) : Int)))
 (Exists fun (x_1 : List Int × Int) =>
 (Is (ints x.snd.fst) (ints x_1.fst) ∧ IntKind.i64.wrap (k - (↑x.fst.size : Int)) = x_1.snd ∧ True) ∧
 (Ml x_1.fst ∧ Fu x_1.snd) ∧
 condP (Decidable.decide (Pl.sz1 x_1.fst.length x_1.snd < (0 : Int))) ((-1 : Int) = Pl.lim (k - (↑(Pl.costY x) : Int))) (Pl.sz1 x_1.fst.length x_1.snd = Pl.lim (k - (↑(Pl.costY x) : Int))))) = Goal Tryz.prog [K_szIntS] ([]) K_szSym.1 K_szSym.2 ((x, k)) := by kernel_rfl

theorem vc_szSymS (s : Pl.Sig) (k : Int) : (condP (Decidable.decide (IntKind.i64.wrap (k - (↑(List.length s) : Int)) < (0 : Int))) ((-1 : Int) = Pl.lim (k - (↑(Pl.costG s) : Int)))
 ((Exists fun (x : Nat) =>
 (x ≤ List.length s ∧ (0 : Int) ≤ k - (↑(List.length s) : Int) - (↑(Pl.sumN Pl.costY (List.take x s)) : Int)) ∧
 (Is (syms s) (syms s) ∧
 IntKind.i64.wrap (k - (↑(List.length s) : Int)) = k - (↑(List.length s) : Int) - (↑(Pl.sumN Pl.costY (List.take x s)) : Int) ∧ (0 : Int) = (↑x : Int) ∧ True) ∧
 True) ∧
 ∀ (x : Nat),
 x ≤ List.length s ∧ (0 : Int) ≤ k - (↑(List.length s) : Int) - (↑(Pl.sumN Pl.costY (List.take x s)) : Int) →
 condP (Decidable.decide ((↑x : Int) < (↑(List.length s) : Int)))
 (((0 : Int) ≤ (↑x : Int) ∧ (↑x : Int) < (↑(List.length s) : Int)) ∧
 x < List.length s ∧
 Exists fun (x_1 : Pl.Sym × Int) =>
 (((List.getD s x Pl.dY).fst = x_1.fst.fst ∧ Is (ints (List.getD s x Pl.dY).snd.fst) (ints x_1.fst.snd.fst) ∧ (List.getD s x Pl.dY).snd.snd = x_1.fst.snd.snd ∧ True) ∧
 k - (↑(List.length s) : Int) - (↑(Pl.sumN Pl.costY (List.take x s)) : Int) = x_1.snd ∧ True) ∧
 (MlY x_1.fst ∧ Fu x_1.snd) ∧
 condP (Decidable.decide (Pl.lim (x_1.snd - (↑(Pl.costY x_1.fst) : Int)) < (0 : Int))) ((-1 : Int) = Pl.lim (k - (↑(Pl.costG s) : Int)))
 (Exists fun (x' : Nat) =>
 (x' ≤ List.length s ∧ (0 : Int) ≤ k - (↑(List.length s) : Int) - (↑(Pl.sumN Pl.costY (List.take x' s)) : Int)) ∧
 List.length s - x' < List.length s - x ∧
 (Is (syms s) (syms s) ∧
 Pl.lim (x_1.snd - (↑(Pl.costY x_1.fst) : Int)) = k - (↑(List.length s) : Int) - (↑(Pl.sumN Pl.costY (List.take x' s)) : Int) ∧
 IntKind.i64.wrap ((↑x : Int) + (1 : Int)) = (↑x' : Int) ∧ True) ∧
 True))
 (k - (↑(List.length s) : Int) - (↑(Pl.sumN Pl.costY (List.take x s)) : Int) = Pl.lim (k - (↑(Pl.costG s) : Int))))) = Goal Tryz.prog [K_szSym] (A_szSymS s k) K_szSymS.1 K_szSymS.2 ((s, k)) := by kernel_rfl

theorem vc_szSig (s : Pl.Sig) (k : Int) : (Exists fun (x : Pl.Sig × Int) =>
 (Is (syms s) (syms x.fst) ∧ k = x.snd ∧ True) ∧
 (MlG x.fst ∧ Fu x.snd) ∧
 condP (Decidable.decide (Pl.lim (x.snd - (↑(Pl.costG x.fst) : Int)) < (0 : Int))) ((-1 : Int) = Pl.lim (k - (↑(Pl.costG s) : Int)))
 (Pl.lim (x.snd - (↑(Pl.costG x.fst) : Int)) = Pl.lim (k - (↑(Pl.costG s) : Int)))) = Goal Tryz.prog [K_szSymS] ([]) K_szSig.1 K_szSig.2 ((s, k)) := by kernel_rfl

theorem vc_toSym (x : Pl.Sym) : (Exists fun (x_1 : List Int) => (Is (ints x.snd.fst) (ints x_1) ∧ True) ∧ Sz x_1 ∧ x.fst = x.fst ∧ Is (ints x_1) (ints x.snd.fst) ∧ x.snd.snd = x.snd.snd ∧ True) = Goal Tryz.prog [K_toIntS] ([]) K_toSym.1 K_toSym.2 (x) := by kernel_rfl

theorem vc_toSymS (s : Pl.Sig) : ((0 : Int) ≤ (↑(List.length s) : Int) ∧
 (↑(List.length s) : Int) ≤ (↑(List.length s) : Int) ∧
 (↑(48 : Nat) : Int) * (↑(List.length s) : Int) ≤ (140737488355328 : Int) ∧
 (↑(List.length s) : Int) ≤ (140737488355328 : Int) ∧
 (Exists fun (x : Nat × Pl.Sig) =>
 (x.fst ≤ List.length s ∧ List.length x.snd = List.length s ∧ List.take x.fst x.snd = List.take x.fst s) ∧
 (Is (syms s) (syms s) ∧ ((0 : Nat) = (0 : Nat) ∧ List.length s = List.length x.snd) ∧ (0 : Int) = (↑x.fst : Int) ∧ True) ∧
 IsO
 (AObj.arr (List.length s) (3 : Nat) fun (x j : Nat) => [st { data := #[] }, AV.lit (0 : Nat) (1 : Nat) fun (x x_1 : Nat) => AV.any, i64 (0 : Int)].getD j AV.any)
 (arY x.snd) ∧
 True) ∧
 ∀ (x : Nat × Pl.Sig),
 x.fst ≤ List.length s ∧ List.length x.snd = List.length s ∧ List.take x.fst x.snd = List.take x.fst s →
 condP (Decidable.decide ((↑x.fst : Int) < (↑(List.length s) : Int)))
 (((0 : Int) ≤ (↑x.fst : Int) ∧ (↑x.fst : Int) < (↑(List.length s) : Int)) ∧
 x.fst < List.length s ∧
 Exists fun (x_1 : Pl.Sym) =>
 (((List.getD s x.fst Pl.dY).fst = x_1.fst ∧ Is (ints (List.getD s x.fst Pl.dY).snd.fst) (ints x_1.snd.fst) ∧ (List.getD s x.fst Pl.dY).snd.snd = x_1.snd.snd ∧ True) ∧
 True) ∧
 Sz x_1.snd.fst ∧
 ((0 : Int) ≤ (↑x.fst : Int) ∧ (↑x.fst : Int) < (↑(List.length x.snd) : Int)) ∧
 x.fst < List.length x.snd ∧
 Exists fun (x' : Nat × Pl.Sig) =>
 (x'.fst ≤ List.length s ∧ List.length x'.snd = List.length s ∧ List.take x'.fst x'.snd = List.take x'.fst s) ∧
 List.length s - x'.fst < List.length s - x.fst ∧
 (Is (syms s) (syms s) ∧
 ((0 : Nat) = (0 : Nat) ∧ List.length x.snd = List.length x'.snd) ∧ IntKind.i64.wrap ((↑x.fst : Int) + (1 : Int)) = (↑x'.fst : Int) ∧ True) ∧
 IsO (AObj.arr (List.length x.snd) (3 : Nat) (storeC (cY x.snd) x.fst (0 : Nat) [st x_1.fst, ints x_1.snd.fst, i64 x_1.snd.snd]))
 (arY x'.snd) ∧
 True)
 ((0 : Nat) + List.length x.snd ≤ List.length x.snd ∧ Is (syms x.snd) (syms s))) = Goal Tryz.prog [K_toSym] (A_toSymS s) K_toSymS.1 K_toSymS.2 (s) := by kernel_rfl

theorem vc_toSig (s : Pl.Sig) : (Exists fun (x : Pl.Sig) => (Is (syms s) (syms x) ∧ True) ∧ SmG x ∧ Is (syms x) (syms s) ∧ True) = Goal Tryz.prog [K_toSymS] ([]) K_toSig.1 K_toSig.2 (s) := by kernel_rfl

theorem vc_eqSym (x y : Pl.Sym) : (condP (!x.fst.toList == y.fst.toList) (Bool.false = Decidable.decide (x = y))
 (Exists fun (x_1 : List Int × List Int) =>
 (Is (ints x.snd.fst) (ints x_1.fst) ∧ Is (ints y.snd.fst) (ints x_1.snd) ∧ True) ∧
 Sz x_1.fst ∧
 condP (!Decidable.decide (x_1.fst = x_1.snd)) (Bool.false = Decidable.decide (x = y))
 (condP (x.snd.snd != y.snd.snd) (Bool.false = Decidable.decide (x = y)) (Bool.true = Decidable.decide (x = y))))) = Goal Tryz.prog [K_eqIntS] ([]) K_eqSym.1 K_eqSym.2 ((x, y)) := by kernel_rfl

theorem vc_eqSymS (s t : Pl.Sig) : (condP ((↑(List.length s) : Int) != (↑(List.length t) : Int)) (Bool.false = Decidable.decide (s = t))
 ((Exists fun (x : Nat) =>
 (x ≤ List.length s ∧ List.length s = List.length t ∧ (s = t ↔ List.drop x s = List.drop x t)) ∧
 (Is (syms s) (syms s) ∧ Is (syms t) (syms t) ∧ (0 : Int) = (↑x : Int) ∧ True) ∧ True) ∧
 ∀ (x : Nat),
 x ≤ List.length s ∧ List.length s = List.length t ∧ (s = t ↔ List.drop x s = List.drop x t) →
 condP (Decidable.decide ((↑x : Int) < (↑(List.length s) : Int)))
 (((0 : Int) ≤ (↑x : Int) ∧ (↑x : Int) < (↑(List.length s) : Int)) ∧
 x < List.length s ∧
 ((0 : Int) ≤ (↑x : Int) ∧ (↑x : Int) < (↑(List.length t) : Int)) ∧
 x < List.length t ∧
 Exists fun (x_1 : Pl.Sym × Pl.Sym) =>
 (((List.getD s x Pl.dY).fst = x_1.fst.fst ∧ Is (ints (List.getD s x Pl.dY).snd.fst) (ints x_1.fst.snd.fst) ∧ (List.getD s x Pl.dY).snd.snd = x_1.fst.snd.snd ∧ True) ∧
 ((List.getD t x Pl.dY).fst = x_1.snd.fst ∧ Is (ints (List.getD t x Pl.dY).snd.fst) (ints x_1.snd.snd.fst) ∧ (List.getD t x Pl.dY).snd.snd = x_1.snd.snd.snd ∧ True) ∧
 True) ∧
 Sz x_1.fst.snd.fst ∧
 condP (!Decidable.decide (x_1.fst = x_1.snd)) (Bool.false = Decidable.decide (s = t))
 (Exists fun (x' : Nat) =>
 (x' ≤ List.length s ∧ List.length s = List.length t ∧ (s = t ↔ List.drop x' s = List.drop x' t)) ∧
 List.length s - x' < List.length s - x ∧
 (Is (syms s) (syms s) ∧ Is (syms t) (syms t) ∧ IntKind.i64.wrap ((↑x : Int) + (1 : Int)) = (↑x' : Int) ∧ True) ∧ True))
 (Bool.true = Decidable.decide (s = t)))) = Goal Tryz.prog [K_eqSym] (A_eqSymS s t) K_eqSymS.1 K_eqSymS.2 ((s, t)) := by kernel_rfl

theorem vc_eqSig (s t : Pl.Sig) : (Exists fun (x : Pl.Sig × Pl.Sig) =>
 (Is (syms s) (syms x.fst) ∧ Is (syms t) (syms x.snd) ∧ True) ∧
 SmG x.fst ∧ condP (!Decidable.decide (x.fst = x.snd)) (Bool.false = Decidable.decide (s = t)) (Bool.true = Decidable.decide (s = t))) = Goal Tryz.prog [K_eqSymS] ([]) K_eqSig.1 K_eqSig.2 ((s, t)) := by kernel_rfl

theorem vc_sNameOk (s : ByteArray) : ((Exists fun (x : Nat) => (x ≤ s.size ∧ (Pl.bs s).all Pl.lower = (List.drop x (Pl.bs s)).all Pl.lower) ∧ (s = s ∧ (0 : Int) = (↑x : Int) ∧ True) ∧ True) ∧
 ∀ (x : Nat),
 x ≤ s.size ∧ (Pl.bs s).all Pl.lower = (List.drop x (Pl.bs s)).all Pl.lower →
 condP (Decidable.decide ((↑x : Int) < (↑s.size : Int)))
 (((0 : Int) ≤ (↑x : Int) ∧ (↑x : Int) < (↑s.size : Int)) ∧
 condP (Decidable.decide ((↑(s.data.getD x (0 : UInt8)).toNat : Int) < (97 : Int))) (Bool.false = Pl.nameOk s)
 (((0 : Int) ≤ (↑x : Int) ∧ (↑x : Int) < (↑s.size : Int)) ∧
 condP (Decidable.decide ((↑(s.data.getD x (0 : UInt8)).toNat : Int) > (122 : Int))) (Bool.false = Pl.nameOk s)
 (Exists fun (x' : Nat) =>
 (x' ≤ s.size ∧ (Pl.bs s).all Pl.lower = (List.drop x' (Pl.bs s)).all Pl.lower) ∧
 s.size - x' < s.size - x ∧ (s = s ∧ IntKind.i64.wrap ((↑x : Int) + (1 : Int)) = (↑x' : Int) ∧ True) ∧ True)))
 (condP (Decidable.decide ((↑s.size : Int) ≥ (1 : Int))) (Decidable.decide ((↑s.size : Int) ≤ (2 : Int)) = Pl.nameOk s) (Bool.false = Pl.nameOk s))) = Goal Tryz.prog [] (A_sNameOk s) K_sNameOk.1 K_sNameOk.2 (s) := by kernel_rfl

theorem vc_iNameOk (s : ByteArray) : (Exists fun (x : Int × Int × Int) =>
 ((↑s.size : Int) = x.fst ∧ (1 : Int) = x.snd.fst ∧ (2 : Int) = x.snd.snd ∧ True) ∧
 True ∧
 condP (!Pl.withinI x.fst x.snd.fst x.snd.snd) (Bool.false = Pl.nameOk s)
 ((Exists fun (x : Nat) => (x ≤ s.size ∧ (Pl.bs s).all Pl.lower = (List.drop x (Pl.bs s)).all Pl.lower) ∧ (s = s ∧ (↑s.size : Int) = (↑s.size : Int) ∧ (0 : Int) = (↑x : Int) ∧ True) ∧ True) ∧
 ∀ (x : Nat),
 x ≤ s.size ∧ (Pl.bs s).all Pl.lower = (List.drop x (Pl.bs s)).all Pl.lower →
 condP (Decidable.decide ((↑x : Int) < (↑s.size : Int)))
 (((0 : Int) ≤ (↑x : Int) ∧ (↑x : Int) < (↑s.size : Int)) ∧
 condP (Decidable.decide ((↑(s.data.getD x (0 : UInt8)).toNat : Int) < (97 : Int))) (Bool.false = Pl.nameOk s)
 (((0 : Int) ≤ (↑x : Int) ∧ (↑x : Int) < (↑s.size : Int)) ∧
 condP (Decidable.decide ((↑(s.data.getD x (0 : UInt8)).toNat : Int) > (122 : Int))) (Bool.false = Pl.nameOk s)
 (Exists fun (x' : Nat) =>
 (x' ≤ s.size ∧ (Pl.bs s).all Pl.lower = (List.drop x' (Pl.bs s)).all Pl.lower) ∧
 s.size - x' < s.size - x ∧ (s = s ∧ (↑s.size : Int) = (↑s.size : Int) ∧ IntKind.i64.wrap ((↑x : Int) + (1 : Int)) = (↑x' : Int) ∧ True) ∧ True)))
 (Bool.true = Pl.nameOk s))) = Goal Tryz.prog [K_within] (A_iNameOk s) K_iNameOk.1 K_iNameOk.2 (s) := by kernel_rfl

theorem vc_l4Sort (x : Int) : (condP (x == (0 : Int)) (Bool.true = Pl.isSort x) ((x == (1 : Int)) = Pl.isSort x)) = Goal Tryz.prog [] ([]) K_l4Sort.1 K_l4Sort.2 (x) := by kernel_rfl

theorem vc_isSort (x : Int) : (condP (x == (0 : Int)) (Bool.true = Pl.isSort x) ((x == (1 : Int)) = Pl.isSort x)) = Goal Tryz.prog [] ([]) K_isSort.1 K_isSort.2 (x) := by kernel_rfl

theorem vc_symok1 (x : Int) : (Exists fun (x_1 : Int) => (x = x_1 ∧ True) ∧ True ∧ (!Pl.isSort x_1) = !Pl.isSort x) = Goal Tryz.prog [K_isSort] ([]) K_symok1.1 K_symok1.2 (x) := by kernel_rfl

theorem vc_IndexSort (l : List Int) : ((Exists fun (x : Nat) =>
 (x ≤ l.length ∧
 Pl.idx (fun (y : Int) => !Pl.isSort y) l =
 if Pl.idx (fun (y : Int) => !Pl.isSort y) (List.drop x l) < (0 : Int) then (-1 : Int) else Pl.idx (fun (y : Int) => !Pl.isSort y) (List.drop x l) + (↑x : Int)) ∧
 (Is (ints l) (ints l) ∧ True ∧ (↑l.length : Int) = (↑l.length : Int) ∧ (0 : Int) = (↑x : Int) ∧ True) ∧ True) ∧
 ∀ (x : Nat),
 (x ≤ l.length ∧
 Pl.idx (fun (y : Int) => !Pl.isSort y) l =
 if Pl.idx (fun (y : Int) => !Pl.isSort y) (List.drop x l) < (0 : Int) then (-1 : Int) else Pl.idx (fun (y : Int) => !Pl.isSort y) (List.drop x l) + (↑x : Int)) →
 condP (Decidable.decide ((↑x : Int) < (↑l.length : Int)))
 (((0 : Int) ≤ (↑x : Int) ∧ (↑x : Int) < (↑l.length : Int)) ∧
 x < l.length ∧
 Exists fun (x_1 : Int) =>
 (l.getD x (0 : Int) = x_1 ∧ True) ∧
 True ∧
 condP (!Pl.isSort x_1) ((↑x : Int) = Pl.idx (fun (y : Int) => !Pl.isSort y) l)
 (Exists fun (x' : Nat) =>
 (x' ≤ l.length ∧
 Pl.idx (fun (y : Int) => !Pl.isSort y) l =
 if Pl.idx (fun (y : Int) => !Pl.isSort y) (List.drop x' l) < (0 : Int) then (-1 : Int) else Pl.idx (fun (y : Int) => !Pl.isSort y) (List.drop x' l) + (↑x' : Int)) ∧
 l.length - x' < l.length - x ∧
 (Is (ints l) (ints l) ∧ True ∧ (↑l.length : Int) = (↑l.length : Int) ∧ IntKind.i64.wrap ((↑x : Int) + (1 : Int)) = (↑x' : Int) ∧ True) ∧ True))
 ((-1 : Int) = Pl.idx (fun (y : Int) => !Pl.isSort y) l)) = Goal Tryz.prog [K_symok1] (A_IndexSort l) K_IndexSort.1 K_IndexSort.2 (l) := by kernel_rfl

theorem vc_ContainsSort (l : List Int) : (Exists fun (x : List Int) => (Is (ints l) (ints x) ∧ True ∧ True) ∧ Sz x ∧ Decidable.decide (Pl.idx (fun (y : Int) => !Pl.isSort y) x ≥ (0 : Int)) = l.any fun (y : Int) => !Pl.isSort y) = Goal Tryz.prog [K_IndexSort] ([]) K_ContainsSort.1 K_ContainsSort.2 (l) := by kernel_rfl

theorem vc_symok (x : Pl.Sym) : (Exists fun (x_1 : ByteArray) =>
 (x.fst = x_1 ∧ True) ∧
 x_1.size ≤ (1048576 : Nat) ∧
 condP (Pl.nameOk x_1)
 (condP (Decidable.decide ((↑x.snd.fst.length : Int) ≤ (2 : Int)))
 (Exists fun (x_2 : Int) =>
 (x.snd.snd = x_2 ∧ True) ∧
 True ∧
 condP (Pl.isSort x_2) (Exists fun (x_3 : List Int) => (Is (ints x.snd.fst) (ints x_3) ∧ True ∧ True) ∧ Sz x_3 ∧ (!x_3.any fun (y : Int) => !Pl.isSort y) = Pl.symOk x)
 (Bool.false = Pl.symOk x))
 (Bool.false = Pl.symOk x))
 (Bool.false = Pl.symOk x)) = Goal Tryz.prog [K_iNameOk, K_isSort, K_ContainsSort] ([]) K_symok.1 K_symok.2 (x) := by kernel_rfl

theorem vc_sSigOk (s : Pl.Sig) : ((Exists fun (x : Nat) =>
 (x ≤ List.length s ∧ Pl.sigL Option.none s = Pl.sigL (Pl.prevS s x) (List.drop x s)) ∧ ((0 : Nat) = (0 : Nat) ∧ (0 : Int) = (↑x : Int) ∧ True) ∧ (Is (syms s) (syms s) ∧ True) ∧ True) ∧
 ∀ (x : Nat),
 x ≤ List.length s ∧ Pl.sigL Option.none s = Pl.sigL (Pl.prevS s x) (List.drop x s) →
 condP (Decidable.decide ((↑x : Int) < (↑(List.length s) : Int)))
 (((0 : Int) ≤ (↑x : Int) ∧ (↑x : Int) < (↑(List.length s) : Int)) ∧
 x < List.length s ∧
 Exists fun (x_1 : ByteArray) =>
 ((List.getD s x Pl.dY).fst = x_1 ∧ True) ∧
 x_1.size ≤ (1048576 : Nat) ∧
 condP (!Pl.nameOk x_1) (Bool.false = Pl.sigOk s)
 (condP (Decidable.decide ((↑(List.getD s x Pl.dY).snd.fst.length : Int) > (2 : Int))) (Bool.false = Pl.sigOk s)
 (Exists fun (x_2 : Int) =>
 ((List.getD s x Pl.dY).snd.snd = x_2 ∧ True) ∧
 True ∧
 condP (!Pl.isSort x_2) (Bool.false = Pl.sigOk s)
 (condP (Decidable.decide ((↑x : Int) > (0 : Int)))
 (((0 : Int) ≤ IntKind.i64.wrap ((↑x : Int) - (1 : Int)) ∧ IntKind.i64.wrap ((↑x : Int) - (1 : Int)) < (↑(List.length s) : Int)) ∧
 (IntKind.i64.wrap ((↑x : Int) - (1 : Int))).toNat < List.length s ∧
 condP (!Op.bytesLess (List.getD s (IntKind.i64.wrap ((↑x : Int) - (1 : Int))).toNat Pl.dY).fst.toList (List.getD s x Pl.dY).fst.toList)
 (Bool.false = Pl.sigOk s)
 ((Exists fun (x_3 : Nat) =>
 (x < List.length s ∧
 x_3 ≤ (List.getD s x Pl.dY).snd.fst.length ∧
 (List.getD s x Pl.dY).snd.fst.all Pl.isSort = (List.drop x_3 (List.getD s x Pl.dY).snd.fst).all Pl.isSort ∧
 (Pl.nameOk (List.getD s x Pl.dY).fst && Decidable.decide ((List.getD s x Pl.dY).snd.fst.length ≤ (2 : Nat)) &&
 Pl.isSort (List.getD s x Pl.dY).snd.snd) =
 Bool.true ∧
 Pl.before (Pl.prevS s x) (List.getD s x Pl.dY).fst = Bool.true) ∧
 ((0 : Nat) = (0 : Nat) ∧ (↑x : Int) = (↑x : Int) ∧ (0 : Nat) = (0 : Nat) ∧ (0 : Int) = (↑x_3 : Int) ∧ True) ∧
 (Is (syms s) (syms s) ∧ True) ∧
 ((List.getD s x Pl.dY).fst = (List.getD s x Pl.dY).fst ∧
 Is (ints (List.getD s x Pl.dY).snd.fst) (ints (List.getD s x Pl.dY).snd.fst) ∧
 (List.getD s x Pl.dY).snd.snd = (List.getD s x Pl.dY).snd.snd ∧ True) ∧
 True) ∧
 ∀ (x_3 : Nat),
 x < List.length s ∧
 x_3 ≤ (List.getD s x Pl.dY).snd.fst.length ∧
 (List.getD s x Pl.dY).snd.fst.all Pl.isSort = (List.drop x_3 (List.getD s x Pl.dY).snd.fst).all Pl.isSort ∧
 (Pl.nameOk (List.getD s x Pl.dY).fst && Decidable.decide ((List.getD s x Pl.dY).snd.fst.length ≤ (2 : Nat)) &&
 Pl.isSort (List.getD s x Pl.dY).snd.snd) =
 Bool.true ∧
 Pl.before (Pl.prevS s x) (List.getD s x Pl.dY).fst = Bool.true →
 condP (Decidable.decide ((↑x_3 : Int) < (↑(List.getD s x Pl.dY).snd.fst.length : Int)))
 (((0 : Int) ≤ (↑x_3 : Int) ∧ (↑x_3 : Int) < (↑(List.getD s x Pl.dY).snd.fst.length : Int)) ∧
 x_3 < (List.getD s x Pl.dY).snd.fst.length ∧
 Exists fun (x_4 : Int) =>
 ((List.getD s x Pl.dY).snd.fst.getD x_3 (0 : Int) = x_4 ∧ True) ∧
 True ∧
 condP (!Pl.isSort x_4) (Bool.false = Pl.sigOk s)
 (Exists fun (x' : Nat) =>
 (x < List.length s ∧
 x' ≤ (List.getD s x Pl.dY).snd.fst.length ∧
 (List.getD s x Pl.dY).snd.fst.all Pl.isSort = (List.drop x' (List.getD s x Pl.dY).snd.fst).all Pl.isSort ∧
 (Pl.nameOk (List.getD s x Pl.dY).fst && Decidable.decide ((List.getD s x Pl.dY).snd.fst.length ≤ (2 : Nat)) &&
 Pl.isSort (List.getD s x Pl.dY).snd.snd) =
 Bool.true ∧
 Pl.before (Pl.prevS s x) (List.getD s x Pl.dY).fst = Bool.true) ∧
 (List.getD s x Pl.dY).snd.fst.length - x' < (List.getD s x Pl.dY).snd.fst.length - x_3 ∧
 ((0 : Nat) = (0 : Nat) ∧
 (↑x : Int) = (↑x : Int) ∧ (0 : Nat) = (0 : Nat) ∧ IntKind.i64.wrap ((↑x_3 : Int) + (1 : Int)) = (↑x' : Int) ∧ True) ∧
 (Is (syms s) (syms s) ∧ True) ∧
 ((List.getD s x Pl.dY).fst = (List.getD s x Pl.dY).fst ∧
 Is (ints (List.getD s x Pl.dY).snd.fst) (ints (List.getD s x Pl.dY).snd.fst) ∧
 (List.getD s x Pl.dY).snd.snd = (List.getD s x Pl.dY).snd.snd ∧ True) ∧
 True))
 (Exists fun (x' : Nat) =>
 (x' ≤ List.length s ∧ Pl.sigL Option.none s = Pl.sigL (Pl.prevS s x') (List.drop x' s)) ∧
 List.length s - x' < List.length s - x ∧
 ((0 : Nat) = (0 : Nat) ∧ IntKind.i64.wrap ((↑x : Int) + (1 : Int)) = (↑x' : Int) ∧ True) ∧ (Is (syms s) (syms s) ∧ True) ∧ True)))
 ((Exists fun (x_3 : Nat) =>
 (x < List.length s ∧
 x_3 ≤ (List.getD s x Pl.dY).snd.fst.length ∧
 (List.getD s x Pl.dY).snd.fst.all Pl.isSort = (List.drop x_3 (List.getD s x Pl.dY).snd.fst).all Pl.isSort ∧
 (Pl.nameOk (List.getD s x Pl.dY).fst && Decidable.decide ((List.getD s x Pl.dY).snd.fst.length ≤ (2 : Nat)) && Pl.isSort (List.getD s x Pl.dY).snd.snd) =
 Bool.true ∧
 Pl.before (Pl.prevS s x) (List.getD s x Pl.dY).fst = Bool.true) ∧
 ((0 : Nat) = (0 : Nat) ∧ (↑x : Int) = (↑x : Int) ∧ (0 : Nat) = (0 : Nat) ∧ (0 : Int) = (↑x_3 : Int) ∧ True) ∧
 (Is (syms s) (syms s) ∧ True) ∧
 ((List.getD s x Pl.dY).fst = (List.getD s x Pl.dY).fst ∧
 Is (ints (List.getD s x Pl.dY).snd.fst) (ints (List.getD s x Pl.dY).snd.fst) ∧
 (List.getD s x Pl.dY).snd.snd = (List.getD s x Pl.dY).snd.snd ∧ True) ∧
 True) ∧
 ∀ (x_3 : Nat),
 x < List.length s ∧
 x_3 ≤ (List.getD s x Pl.dY).snd.fst.length ∧
 (List.getD s x Pl.dY).snd.fst.all Pl.isSort = (List.drop x_3 (List.getD s x Pl.dY).snd.fst).all Pl.isSort ∧
 (Pl.nameOk (List.getD s x Pl.dY).fst && Decidable.decide ((List.getD s x Pl.dY).snd.fst.length ≤ (2 : Nat)) && Pl.isSort (List.getD s x Pl.dY).snd.snd) =
 Bool.true ∧
 Pl.before (Pl.prevS s x) (List.getD s x Pl.dY).fst = Bool.true →
 condP (Decidable.decide ((↑x_3 : Int) < (↑(List.getD s x Pl.dY).snd.fst.length : Int)))
 (((0 : Int) ≤ (↑x_3 : Int) ∧ (↑x_3 : Int) < (↑(List.getD s x Pl.dY).snd.fst.length : Int)) ∧
 x_3 < (List.getD s x Pl.dY).snd.fst.length ∧
 Exists fun (x_4 : Int) =>
 ((List.getD s x Pl.dY).snd.fst.getD x_3 (0 : Int) = x_4 ∧ True) ∧
 True ∧
 condP (!Pl.isSort x_4) (Bool.false = Pl.sigOk s)
 (Exists fun (x' : Nat) =>
 (x < List.length s ∧
 x' ≤ (List.getD s x Pl.dY).snd.fst.length ∧
 (List.getD s x Pl.dY).snd.fst.all Pl.isSort = (List.drop x' (List.getD s x Pl.dY).snd.fst).all Pl.isSort ∧
 (Pl.nameOk (List.getD s x Pl.dY).fst && Decidable.decide ((List.getD s x Pl.dY).snd.fst.length ≤ (2 : Nat)) &&
 Pl.isSort (List.getD s x Pl.dY).snd.snd) =
 Bool.true ∧
 Pl.before (Pl.prevS s x) (List.getD s x Pl.dY).fst = Bool.true) ∧
 (List.getD s x Pl.dY).snd.fst.length - x' < (List.getD s x Pl.dY).snd.fst.length - x_3 ∧
 ((0 : Nat) = (0 : Nat) ∧
 (↑x : Int) = (↑x : Int) ∧ (0 : Nat) = (0 : Nat) ∧ IntKind.i64.wrap ((↑x_3 : Int) + (1 : Int)) = (↑x' : Int) ∧ True) ∧
 (Is (syms s) (syms s) ∧ True) ∧
 ((List.getD s x Pl.dY).fst = (List.getD s x Pl.dY).fst ∧
 Is (ints (List.getD s x Pl.dY).snd.fst) (ints (List.getD s x Pl.dY).snd.fst) ∧
 (List.getD s x Pl.dY).snd.snd = (List.getD s x Pl.dY).snd.snd ∧ True) ∧
 True))
 (Exists fun (x' : Nat) =>
 (x' ≤ List.length s ∧ Pl.sigL Option.none s = Pl.sigL (Pl.prevS s x') (List.drop x' s)) ∧
 List.length s - x' < List.length s - x ∧
 ((0 : Nat) = (0 : Nat) ∧ IntKind.i64.wrap ((↑x : Int) + (1 : Int)) = (↑x' : Int) ∧ True) ∧ (Is (syms s) (syms s) ∧ True) ∧ True))))))
 (Decidable.decide ((↑(List.length s) : Int) ≤ (7 : Int)) = Pl.sigOk s)) = Goal Tryz.prog [K_sNameOk, K_l4Sort] (A_sSigOk s) K_sSigOk.1 K_sSigOk.2 (s) := by kernel_rfl

theorem vc_iSigOk (s : Pl.Sig) : ((Exists fun (x : Nat) =>
 (x ≤ List.length s ∧ Pl.sigL Option.none s = Pl.sigL (Pl.prevS s x) (List.drop x s)) ∧
 ((0 : Nat) = (0 : Nat) ∧ Is (syms s) (syms s) ∧ (↑(List.length s) : Int) = (↑(List.length s) : Int) ∧ (0 : Int) = (↑x : Int) ∧ True) ∧ (Is (syms s) (syms s) ∧ True) ∧ True) ∧
 ∀ (x : Nat),
 x ≤ List.length s ∧ Pl.sigL Option.none s = Pl.sigL (Pl.prevS s x) (List.drop x s) →
 condP (Decidable.decide ((↑x : Int) < (↑(List.length s) : Int)))
 (((0 : Int) ≤ (↑x : Int) ∧ (↑x : Int) < (↑(List.length s) : Int)) ∧
 x < List.length s ∧
 Exists fun (x_1 : Pl.Sym) =>
 (((List.getD s x Pl.dY).fst = x_1.fst ∧ Is (ints (List.getD s x Pl.dY).snd.fst) (ints x_1.snd.fst) ∧ (List.getD s x Pl.dY).snd.snd = x_1.snd.snd ∧ True) ∧ True) ∧
 (x_1.fst.size ≤ (1048576 : Nat) ∧ Sz x_1.snd.fst) ∧
 condP (!Pl.symOk x_1) (Bool.false = Pl.sigOk s)
 (condP (Decidable.decide ((↑x : Int) > (0 : Int)))
 (((0 : Int) ≤ IntKind.i64.wrap ((↑x : Int) - (1 : Int)) ∧ IntKind.i64.wrap ((↑x : Int) - (1 : Int)) < (↑(List.length s) : Int)) ∧
 (IntKind.i64.wrap ((↑x : Int) - (1 : Int))).toNat < List.length s ∧
 condP (!Op.bytesLess (List.getD s (IntKind.i64.wrap ((↑x : Int) - (1 : Int))).toNat Pl.dY).fst.toList (List.getD s x Pl.dY).fst.toList) (Bool.false = Pl.sigOk s)
 (Exists fun (x' : Nat) =>
 (x' ≤ List.length s ∧ Pl.sigL Option.none s = Pl.sigL (Pl.prevS s x') (List.drop x' s)) ∧
 List.length s - x' < List.length s - x ∧
 ((0 : Nat) = (0 : Nat) ∧
 Is (syms s) (syms s) ∧ (↑(List.length s) : Int) = (↑(List.length s) : Int) ∧ IntKind.i64.wrap ((↑x : Int) + (1 : Int)) = (↑x' : Int) ∧ True) ∧
 (Is (syms s) (syms s) ∧ True) ∧ True))
 (Exists fun (x' : Nat) =>
 (x' ≤ List.length s ∧ Pl.sigL Option.none s = Pl.sigL (Pl.prevS s x') (List.drop x' s)) ∧
 List.length s - x' < List.length s - x ∧
 ((0 : Nat) = (0 : Nat) ∧
 Is (syms s) (syms s) ∧ (↑(List.length s) : Int) = (↑(List.length s) : Int) ∧ IntKind.i64.wrap ((↑x : Int) + (1 : Int)) = (↑x' : Int) ∧ True) ∧
 (Is (syms s) (syms s) ∧ True) ∧ True)))
 (Decidable.decide ((↑(List.length s) : Int) ≤ (7 : Int)) = Pl.sigOk s)) = Goal Tryz.prog [K_symok] (A_iSigOk s) K_iSigOk.1 K_iSigOk.2 (s) := by kernel_rfl

end Cg
