/-
  What is left to show of each function's code, printed by a program: Hunt. No condition.
-/
import Derived.Test.YtgobdkgdhmkegaaHuntDefs
import Derived.Test.YtgobdkgdhmkegaaProg
set_option maxRecDepth 100000
set_option linter.unusedVariables false
namespace Cg
open Go Go.Proofs
theorem vc_l11Free (c : Pl.Cnf) (put : List Int) : ((Exists fun (x : Nat) =>
 ((↑x : Int) ≤ c.fst ∧ Pl.freeL put (Pl.marks c.fst) = Pl.freeL put (List.drop x (Pl.marks c.fst))) ∧
 (Is (ints put) (ints put) ∧ (0 : Nat) = (0 : Nat) ∧ (1 : Int) = (↑x : Int) + (1 : Int) ∧ True) ∧ (c.fst = c.fst ∧ Is (intss c.snd) (intss c.snd) ∧ True) ∧ True) ∧
 ∀ (x : Nat),
 (↑x : Int) ≤ c.fst ∧ Pl.freeL put (Pl.marks c.fst) = Pl.freeL put (List.drop x (Pl.marks c.fst)) →
 condP (Decidable.decide ((↑x : Int) + (1 : Int) ≤ c.fst))
 (Exists fun (x_1 : List Int × Int) =>
 (Is (ints put) (ints x_1.fst) ∧ (↑x : Int) + (1 : Int) = x_1.snd ∧ True) ∧
 Sz x_1.fst ∧
 condP (Pl.at_ x_1.snd x_1.fst == (0 : Int)) ((↑x : Int) + (1 : Int) = Pl.freeL put (Pl.marks c.fst))
 (Exists fun (x' : Nat) =>
 ((↑x' : Int) ≤ c.fst ∧ Pl.freeL put (Pl.marks c.fst) = Pl.freeL put (List.drop x' (Pl.marks c.fst))) ∧
 (c.fst - (↑x' : Int)).toNat < (c.fst - (↑x : Int)).toNat ∧
 (Is (ints put) (ints put) ∧ (0 : Nat) = (0 : Nat) ∧ IntKind.i64.wrap ((↑x : Int) + (1 : Int) + (1 : Int)) = (↑x' : Int) + (1 : Int) ∧ True) ∧
 (c.fst = c.fst ∧ Is (intss c.snd) (intss c.snd) ∧ True) ∧ True))
 ((0 : Int) = Pl.freeL put (Pl.marks c.fst))) = Goal Try.prog [K_l10At] (A_l11Free c put) K_l11Free.1 K_l11Free.2 ((c, put)) := by kernel_rfl

theorem vc_l11Vals (c : Pl.Cnf) (put : List Int) : ((Exists fun (x : Nat × List Bool) =>
 ((↑x.fst : Int) ≤ c.fst ∧ x.snd.length = x.fst ∧ Pl.valsL put (Pl.marks c.fst) = x.snd ++ Pl.valsL put (List.drop x.fst (Pl.marks c.fst))) ∧
 (Is (ints put) (ints put) ∧ (0 : Nat) = (0 : Nat) ∧ ((0 : Nat) = (0 : Nat) ∧ (0 : Nat) = (0 : Nat) ∧ x.snd.length = (0 : Nat)) ∧ (1 : Int) = (↑x.fst : Int) + (1 : Int) ∧ True) ∧
 (c.fst = c.fst ∧ Is (intss c.snd) (intss c.snd) ∧ True) ∧ x.snd.length = (0 : Nat) ∧ True) ∧
 ∀ (x : Nat × List Bool),
 (↑x.fst : Int) ≤ c.fst ∧ x.snd.length = x.fst ∧ Pl.valsL put (Pl.marks c.fst) = x.snd ++ Pl.valsL put (List.drop x.fst (Pl.marks c.fst)) →
 condP (Decidable.decide ((↑x.fst : Int) + (1 : Int) ≤ c.fst))
 (Exists fun (x_1 : List Int × Int) =>
 (Is (ints put) (ints x_1.fst) ∧ (↑x.fst : Int) + (1 : Int) = x_1.snd ∧ True) ∧
 Sz x_1.fst ∧
 (0 : Nat) + x.snd.length ≤ x.snd.length ∧
 (x.snd.length + (1 : Nat)) * (1 : Nat) ≤ (70368744177664 : Nat) ∧
 Exists fun (x' : Nat × List Bool) =>
 ((↑x'.fst : Int) ≤ c.fst ∧ x'.snd.length = x'.fst ∧ Pl.valsL put (Pl.marks c.fst) = x'.snd ++ Pl.valsL put (List.drop x'.fst (Pl.marks c.fst))) ∧
 (c.fst - (↑x'.fst : Int)).toNat < (c.fst - (↑x.fst : Int)).toNat ∧
 (Is (ints put) (ints put) ∧
 (0 : Nat) = (0 : Nat) ∧
 ((0 : Nat) = (0 : Nat) ∧ x.snd.length + (1 : Nat) = x'.snd.length) ∧ IntKind.i64.wrap ((↑x.fst : Int) + (1 : Int) + (1 : Int)) = (↑x'.fst : Int) + (1 : Int) ∧ True) ∧
 (c.fst = c.fst ∧ Is (intss c.snd) (intss c.snd) ∧ True) ∧
 IsO (AObj.arr (x.snd.length + (1 : Nat)) (1 : Nat) (joinC x.snd.length (cB x.snd) (rowsCell [[bl (Pl.at_ x_1.snd x_1.fst == (1 : Int))]])))
 (arB x'.snd) ∧
 True)
 ((0 : Nat) + x.snd.length ≤ x.snd.length ∧ Is (bools x.snd) (bools (Pl.valsL put (Pl.marks c.fst))))) = Goal Try.prog [K_l10At] (A_l11Vals c put) K_l11Vals.1 K_l11Vals.2 ((c, put)) := by kernel_rfl

theorem vc_l11Note (f : Int) (log : List (List Int)) (ds : List Int) : (Exists fun (x : List Int) =>
 (Is (ints ds) (ints x) ∧ True) ∧
 SzH x ∧
 Exists fun (x_1 : List Int) =>
 (Is (ints (Pl.nots x)) (ints x_1) ∧ True) ∧
 x_1.length ≤ (1073741824 : Nat) ∧
 ((0 : Nat) = (0 : Nat) ∨ (0 : Nat) < log.length) ∧
 ((0 : Nat) + log.length) * (24 : Nat) ≤ (70368744177664 : Nat) ∧
 (0 : Nat) + ((0 : Nat) + log.length) ≤ (0 : Nat) + log.length ∧
 ((0 : Nat) + log.length + (1 : Nat)) * (24 : Nat) ≤ (70368744177664 : Nat) ∧
 (0 : Nat) + ((0 : Nat) + log.length + (1 : Nat)) ≤ (0 : Nat) + log.length + (1 : Nat) ∧
 f = f ∧
 Is
 (AV.sl ((0 : Nat) + log.length + (1 : Nat)) (1 : Nat) fun (i j : Nat) =>
 joinC ((0 : Nat) + log.length) (cII log) (rowsCell [[ints (Pl.clauseOf x_1).fst]]) i j)
 (intss (log ++ [Pl.note ds])) ∧
 True) = Goal Try.prog [K_l10Nots, K_sClauseOf] ([]) K_l11Note.1 K_l11Note.2 ((f, log, ds)) := by kernel_rfl

theorem vc_l11Find (n : Nat) (x : FX) : (condP (Decidable.decide (x.snd.fst < (1 : Int)))
 ((x.snd.fst = x.snd.fst - (↑(Pl.hunt x.fst x.snd.snd.snd).fst : Int) ∧ Is (intss x.snd.snd.fst) (intss (x.snd.snd.fst ++ (Pl.hunt x.fst x.snd.snd.snd).snd.fst)) ∧ True) ∧
 Is (AV.lit (0 : Nat) (1 : Nat) (rowsCell [])) (bools (Pl.hunt x.fst x.snd.snd.snd).snd.snd.fst) ∧ Bool.false = (Pl.hunt x.fst x.snd.snd.snd).snd.snd.snd ∧ True)
 (Exists fun (x_1 : Pl.Cnf × List Int) =>
 ((x.fst.fst = x_1.fst.fst ∧ Is (intss x.fst.snd) (intss x_1.fst.snd) ∧ True) ∧ Is (ints x.snd.snd.snd) (ints x_1.snd) ∧ True) ∧
 (Pl.cnfOk x_1.fst = Bool.true ∧ SzC x_1.fst ∧ SzH x_1.snd) ∧
 condP (Pl.unitsS x_1.fst.snd x_1.snd).snd
 (Exists fun (x_2 : Int × List (List Int) × List Int) =>
 ((IntKind.i64.wrap (x.snd.fst - (1 : Int)) = x_2.fst ∧ Is (intss x.snd.snd.fst) (intss x_2.snd.fst) ∧ True) ∧ Is (ints x.snd.snd.snd) (ints x_2.snd.snd) ∧ True) ∧
 (x_2.snd.fst.length ≤ (1000 : Nat) ∧ x_2.snd.snd.length ≤ (1000 : Nat)) ∧
 (x_2.fst = x.snd.fst - (↑(Pl.hunt x.fst x.snd.snd.snd).fst : Int) ∧
 Is (intss (x_2.snd.fst ++ [Pl.note x_2.snd.snd])) (intss (x.snd.snd.fst ++ (Pl.hunt x.fst x.snd.snd.snd).snd.fst)) ∧ True) ∧
 Is (AV.lit (0 : Nat) (1 : Nat) (rowsCell [])) (bools (Pl.hunt x.fst x.snd.snd.snd).snd.snd.fst) ∧ Bool.false = (Pl.hunt x.fst x.snd.snd.snd).snd.snd.snd ∧ True)
 (Exists fun (x_2 : Pl.Cnf × List Int) =>
 ((x.fst.fst = x_2.fst.fst ∧ Is (intss x.fst.snd) (intss x_2.fst.snd) ∧ True) ∧ Is (ints (Pl.unitsS x_1.fst.snd x_1.snd).fst) (ints x_2.snd) ∧ True) ∧
 (Pl.cnfOk x_2.fst = Bool.true ∧ Sz x_2.snd) ∧
 condP (Pl.freeL x_2.snd (Pl.marks x_2.fst.fst) == (0 : Int))
 (Exists fun (x_3 : Pl.Cnf × List Int) =>
 ((x.fst.fst = x_3.fst.fst ∧ Is (intss x.fst.snd) (intss x_3.fst.snd) ∧ True) ∧ Is (ints (Pl.unitsS x_1.fst.snd x_1.snd).fst) (ints x_3.snd) ∧ True) ∧
 (Pl.cnfOk x_3.fst = Bool.true ∧ Sz x_3.snd) ∧
 (IntKind.i64.wrap (x.snd.fst - (1 : Int)) = x.snd.fst - (↑(Pl.hunt x.fst x.snd.snd.snd).fst : Int) ∧
 Is (intss x.snd.snd.fst) (intss (x.snd.snd.fst ++ (Pl.hunt x.fst x.snd.snd.snd).snd.fst)) ∧ True) ∧
 Is (bools (Pl.valsL x_3.snd (Pl.marks x_3.fst.fst))) (bools (Pl.hunt x.fst x.snd.snd.snd).snd.snd.fst) ∧
 Bool.true = (Pl.hunt x.fst x.snd.snd.snd).snd.snd.snd ∧ True)
 ((Exists fun (x_3 : Nat × Int × List (List Int)) =>
 Pl.HuntI x.fst x.snd.snd.snd x.snd.fst x.snd.snd.fst x_3.fst x_3.snd.fst x_3.snd.snd ∧
 (Is (ints x.snd.snd.snd) (ints x.snd.snd.snd) ∧
 (0 : Nat) = (0 : Nat) ∧
 (0 : Nat) = (0 : Nat) ∧ (0 : Nat) = (0 : Nat) ∧ Pl.freeL x_2.snd (Pl.marks x_2.fst.fst) = Pl.next x.fst x.snd.snd.snd ∧ (0 : Int) = (↑x_3.fst : Int) ∧ True) ∧
 (x.fst.fst = x.fst.fst ∧ Is (intss x.fst.snd) (intss x.fst.snd) ∧ True) ∧
 (IntKind.i64.wrap (x.snd.fst - (1 : Int)) = x_3.snd.fst ∧ Is (intss x.snd.snd.fst) (intss x_3.snd.snd) ∧ True) ∧
 ((0 : Int) = (0 : Int) ∧ Is (AV.lit (0 : Nat) (1 : Nat) fun (x x_4 : Nat) => AV.any) nilA ∧ True) ∧ True) ∧
 ∀ (x_3 : Nat × Int × List (List Int)),
 Pl.HuntI x.fst x.snd.snd.snd x.snd.fst x.snd.snd.fst x_3.fst x_3.snd.fst x_3.snd.snd →
 condP (Decidable.decide ((↑x_3.fst : Int) < (2 : Int)))
 (((0 : Nat) = (0 : Nat) ∨ (0 : Nat) < x.snd.snd.snd.length) ∧
 ((0 : Nat) + x.snd.snd.snd.length) * (8 : Nat) ≤ (70368744177664 : Nat) ∧
 (0 : Nat) + ((0 : Nat) + x.snd.snd.snd.length) ≤ (0 : Nat) + x.snd.snd.snd.length ∧
 ((0 : Nat) + x.snd.snd.snd.length + (1 : Nat)) * (8 : Nat) ≤ (70368744177664 : Nat) ∧
 (0 : Nat) + ((0 : Nat) + x.snd.snd.snd.length + (1 : Nat)) ≤ (0 : Nat) + x.snd.snd.snd.length + (1 : Nat) ∧
 Exists fun (x_4 : FX) =>
 ((x.fst.fst = x_4.fst.fst ∧ Is (intss x.fst.snd) (intss x_4.fst.snd) ∧ True) ∧
 (x_3.snd.fst = x_4.snd.fst ∧ Is (intss x_3.snd.snd) (intss x_4.snd.snd.fst) ∧ True) ∧
 Is
 (AV.sl ((0 : Nat) + x.snd.snd.snd.length + (1 : Nat)) (1 : Nat) fun (i j : Nat) =>
 joinC ((0 : Nat) + x.snd.snd.snd.length) (cI x.snd.snd.snd)
 (rowsCell
 [[i64
 (IntKind.i64.wrap
 (Pl.next x.fst x.snd.snd.snd * IntKind.i64.wrap (IntKind.i64.wrap ((2 : Int) * (↑x_3.fst : Int)) - (1 : Int))))]])
 i j)
 (ints x_4.snd.snd.snd) ∧
 True) ∧
 (((Pl.cnfOk x_4.fst = Bool.true ∧ SzC x_4.fst ∧ Pl.Rgt x_4.fst x_4.snd.snd.snd) ∧
 (↑(Pl.hunt x_4.fst x_4.snd.snd.snd).fst : Int) ≤ x_4.snd.fst ∧ x_4.snd.fst ≤ (130 : Int) ∧ (↑x_4.snd.snd.fst.length : Int) + x_4.snd.fst ≤ (1000 : Int)) ∧
 (61 : Nat) - x_4.snd.snd.snd.length < n) ∧
 condP (Pl.hunt x_4.fst x_4.snd.snd.snd).snd.snd.snd
 ((x_4.snd.fst - (↑(Pl.hunt x_4.fst x_4.snd.snd.snd).fst : Int) = x.snd.fst - (↑(Pl.hunt x.fst x.snd.snd.snd).fst : Int) ∧
 Is (intss (x_4.snd.snd.fst ++ (Pl.hunt x_4.fst x_4.snd.snd.snd).snd.fst)) (intss (x.snd.snd.fst ++ (Pl.hunt x.fst x.snd.snd.snd).snd.fst)) ∧
 True) ∧
 Is (bools (Pl.hunt x_4.fst x_4.snd.snd.snd).snd.snd.fst) (bools (Pl.hunt x.fst x.snd.snd.snd).snd.snd.fst) ∧
 (Pl.hunt x_4.fst x_4.snd.snd.snd).snd.snd.snd = (Pl.hunt x.fst x.snd.snd.snd).snd.snd.snd ∧ True)
 (condP (Decidable.decide (x_4.snd.fst - (↑(Pl.hunt x_4.fst x_4.snd.snd.snd).fst : Int) < (0 : Int)))
 ((x_4.snd.fst - (↑(Pl.hunt x_4.fst x_4.snd.snd.snd).fst : Int) = x.snd.fst - (↑(Pl.hunt x.fst x.snd.snd.snd).fst : Int) ∧
 Is (intss (x_4.snd.snd.fst ++ (Pl.hunt x_4.fst x_4.snd.snd.snd).snd.fst)) (intss (x.snd.snd.fst ++ (Pl.hunt x.fst x.snd.snd.snd).snd.fst)) ∧
 True) ∧
 Is (bools (Pl.hunt x_4.fst x_4.snd.snd.snd).snd.snd.fst) (bools (Pl.hunt x.fst x.snd.snd.snd).snd.snd.fst) ∧
 (Pl.hunt x_4.fst x_4.snd.snd.snd).snd.snd.snd = (Pl.hunt x.fst x.snd.snd.snd).snd.snd.snd ∧ True)
 (Exists fun (x' : Nat × Int × List (List Int)) =>
 Pl.HuntI x.fst x.snd.snd.snd x.snd.fst x.snd.snd.fst x'.fst x'.snd.fst x'.snd.snd ∧
 (2 : Nat) - x'.fst < (2 : Nat) - x_3.fst ∧
 (Is (ints x.snd.snd.snd) (ints x.snd.snd.snd) ∧
 (0 : Nat) = (0 : Nat) ∧
 (0 : Nat) = (0 : Nat) ∧
 (0 : Nat) = (0 : Nat) ∧
 Pl.next x.fst x.snd.snd.snd = Pl.next x.fst x.snd.snd.snd ∧ IntKind.i64.wrap ((↑x_3.fst : Int) + (1 : Int)) = (↑x'.fst : Int) ∧ True) ∧
 (x.fst.fst = x.fst.fst ∧ Is (intss x.fst.snd) (intss x.fst.snd) ∧ True) ∧
 (x_4.snd.fst - (↑(Pl.hunt x_4.fst x_4.snd.snd.snd).fst : Int) = x'.snd.fst ∧
 Is (intss (x_4.snd.snd.fst ++ (Pl.hunt x_4.fst x_4.snd.snd.snd).snd.fst)) (intss x'.snd.snd) ∧ True) ∧
 ((0 : Int) = (0 : Int) ∧ Is (AV.lit (0 : Nat) (1 : Nat) fun (x x_5 : Nat) => AV.any) nilA ∧ True) ∧ True)))
 (Exists fun (x_4 : Int × List (List Int) × List Int) =>
 ((x_3.snd.fst = x_4.fst ∧ Is (intss x_3.snd.snd) (intss x_4.snd.fst) ∧ True) ∧ Is (ints x.snd.snd.snd) (ints x_4.snd.snd) ∧ True) ∧
 (x_4.snd.fst.length ≤ (1000 : Nat) ∧ x_4.snd.snd.length ≤ (1000 : Nat)) ∧
 (x_4.fst = x.snd.fst - (↑(Pl.hunt x.fst x.snd.snd.snd).fst : Int) ∧
 Is (intss (x_4.snd.fst ++ [Pl.note x_4.snd.snd])) (intss (x.snd.snd.fst ++ (Pl.hunt x.fst x.snd.snd.snd).snd.fst)) ∧ True) ∧
 Is (AV.lit (0 : Nat) (1 : Nat) (rowsCell [])) (bools (Pl.hunt x.fst x.snd.snd.snd).snd.snd.fst) ∧
 Bool.false = (Pl.hunt x.fst x.snd.snd.snd).snd.snd.snd ∧ True))))) = Goal Try.prog [K_l10Units, K_l11Note, K_l11Free, K_l11Vals, (K_l11Find n)] (A_l11Find x.1 x.2.1 x.2.2.1 x.2.2.2) (K_l11Find (n + 1)).1 (K_l11Find (n + 1)).2 (x) := by kernel_rfl

theorem vc_l11Walk (n : Nat) (x : WX) : (Exists fun (x_1 : Pl.Cnf × List Int) =>
 ((x.fst.fst = x_1.fst.fst ∧ Is (intss x.fst.snd) (intss x_1.fst.snd) ∧ True) ∧ Is (ints x.snd.snd) (ints x_1.snd) ∧ True) ∧
 (Pl.cnfOk x_1.fst = Bool.true ∧ SzC x_1.fst ∧ SzH x_1.snd) ∧
 Exists fun (x_2 : Pl.Cnf × List Int) =>
 ((x.fst.fst = x_2.fst.fst ∧ Is (intss x.fst.snd) (intss x_2.fst.snd) ∧ True) ∧ Is (ints (Pl.unitsS x_1.fst.snd x_1.snd).fst) (ints x_2.snd) ∧ True) ∧
 (Pl.cnfOk x_2.fst = Bool.true ∧ Sz x_2.snd) ∧
 condP (Pl.unitsS x_1.fst.snd x_1.snd).snd
 (condP (!(Pl.unitsS x_1.fst.snd x_1.snd).snd)
 ((1 : Int) = (Pl.walk x.fst x.snd.fst x.snd.snd).fst ∧ (Pl.freeL x_2.snd (Pl.marks x_2.fst.fst) == (0 : Int)) = (Pl.walk x.fst x.snd.fst x.snd.snd).snd ∧ True)
 ((1 : Int) = (Pl.walk x.fst x.snd.fst x.snd.snd).fst ∧ Bool.false = (Pl.walk x.fst x.snd.fst x.snd.snd).snd ∧ True))
 (condP (Pl.freeL x_2.snd (Pl.marks x_2.fst.fst) == (0 : Int))
 (condP (!(Pl.unitsS x_1.fst.snd x_1.snd).snd)
 ((1 : Int) = (Pl.walk x.fst x.snd.fst x.snd.snd).fst ∧ (Pl.freeL x_2.snd (Pl.marks x_2.fst.fst) == (0 : Int)) = (Pl.walk x.fst x.snd.fst x.snd.snd).snd ∧ True)
 ((1 : Int) = (Pl.walk x.fst x.snd.fst x.snd.snd).fst ∧ Bool.false = (Pl.walk x.fst x.snd.fst x.snd.snd).snd ∧ True))
 (condP (Decidable.decide (x.snd.fst < (2 : Int)))
 (condP (!(Pl.unitsS x_1.fst.snd x_1.snd).snd)
 ((1 : Int) = (Pl.walk x.fst x.snd.fst x.snd.snd).fst ∧ (Pl.freeL x_2.snd (Pl.marks x_2.fst.fst) == (0 : Int)) = (Pl.walk x.fst x.snd.fst x.snd.snd).snd ∧ True)
 ((1 : Int) = (Pl.walk x.fst x.snd.fst x.snd.snd).fst ∧ Bool.false = (Pl.walk x.fst x.snd.fst x.snd.snd).snd ∧ True))
 ((Exists fun (x_3 : Nat × Int) =>
 Pl.WalkI x.fst x.snd.snd x.snd.fst x_3.fst x_3.snd ∧
 (x.snd.fst = x.snd.fst ∧
 Is (ints x.snd.snd) (ints x.snd.snd) ∧
 (0 : Nat) = (0 : Nat) ∧ Pl.freeL x_2.snd (Pl.marks x_2.fst.fst) = Pl.next x.fst x.snd.snd ∧ (1 : Int) = x_3.snd ∧ (0 : Int) = (↑x_3.fst : Int) ∧ True) ∧
 (x.fst.fst = x.fst.fst ∧ Is (intss x.fst.snd) (intss x.fst.snd) ∧ True) ∧ True) ∧
 ∀ (x_3 : Nat × Int),
 Pl.WalkI x.fst x.snd.snd x.snd.fst x_3.fst x_3.snd →
 condP (Decidable.decide ((↑x_3.fst : Int) < (2 : Int)))
 (condP (Decidable.decide (x_3.snd < x.snd.fst))
 (((0 : Nat) = (0 : Nat) ∨ (0 : Nat) < x.snd.snd.length) ∧
 ((0 : Nat) + x.snd.snd.length) * (8 : Nat) ≤ (70368744177664 : Nat) ∧
 (0 : Nat) + ((0 : Nat) + x.snd.snd.length) ≤ (0 : Nat) + x.snd.snd.length ∧
 ((0 : Nat) + x.snd.snd.length + (1 : Nat)) * (8 : Nat) ≤ (70368744177664 : Nat) ∧
 (0 : Nat) + ((0 : Nat) + x.snd.snd.length + (1 : Nat)) ≤ (0 : Nat) + x.snd.snd.length + (1 : Nat) ∧
 Exists fun (x_4 : WX) =>
 ((x.fst.fst = x_4.fst.fst ∧ Is (intss x.fst.snd) (intss x_4.fst.snd) ∧ True) ∧
 IntKind.i64.wrap (x.snd.fst - x_3.snd) = x_4.snd.fst ∧
 Is
 (AV.sl ((0 : Nat) + x.snd.snd.length + (1 : Nat)) (1 : Nat) fun (i j : Nat) =>
 joinC ((0 : Nat) + x.snd.snd.length) (cI x.snd.snd)
 (rowsCell
 [[i64
 (IntKind.i64.wrap (Pl.next x.fst x.snd.snd * IntKind.i64.wrap (IntKind.i64.wrap ((2 : Int) * (↑x_3.fst : Int)) - (1 : Int))))]])
 i j)
 (ints x_4.snd.snd) ∧
 True) ∧
 (((Pl.cnfOk x_4.fst = Bool.true ∧ SzC x_4.fst ∧ Pl.Rgt x_4.fst x_4.snd.snd) ∧ (1 : Int) ≤ x_4.snd.fst ∧ x_4.snd.fst ≤ (131 : Int)) ∧
 (61 : Nat) - x_4.snd.snd.length < n) ∧
 condP (Pl.walk x_4.fst x_4.snd.fst x_4.snd.snd).snd
 (IntKind.i64.wrap (x_3.snd + (Pl.walk x_4.fst x_4.snd.fst x_4.snd.snd).fst) = (Pl.walk x.fst x.snd.fst x.snd.snd).fst ∧
 Bool.true = (Pl.walk x.fst x.snd.fst x.snd.snd).snd ∧ True)
 (Exists fun (x' : Nat × Int) =>
 Pl.WalkI x.fst x.snd.snd x.snd.fst x'.fst x'.snd ∧
 (2 : Nat) - x'.fst < (2 : Nat) - x_3.fst ∧
 (x.snd.fst = x.snd.fst ∧
 Is (ints x.snd.snd) (ints x.snd.snd) ∧
 (0 : Nat) = (0 : Nat) ∧
 Pl.next x.fst x.snd.snd = Pl.next x.fst x.snd.snd ∧
 IntKind.i64.wrap (x_3.snd + (Pl.walk x_4.fst x_4.snd.fst x_4.snd.snd).fst) = x'.snd ∧
 IntKind.i64.wrap ((↑x_3.fst : Int) + (1 : Int)) = (↑x'.fst : Int) ∧ True) ∧
 (x.fst.fst = x.fst.fst ∧ Is (intss x.fst.snd) (intss x.fst.snd) ∧ True) ∧ True))
 (x_3.snd = (Pl.walk x.fst x.snd.fst x.snd.snd).fst ∧ Bool.false = (Pl.walk x.fst x.snd.fst x.snd.snd).snd ∧ True))
 (x_3.snd = (Pl.walk x.fst x.snd.fst x.snd.snd).fst ∧ Bool.false = (Pl.walk x.fst x.snd.fst x.snd.snd).snd ∧ True))))) = Goal Try.prog [K_l10Units, K_l11Free, (K_l11Walk n)] (A_l11Walk x.1 x.2.1 x.2.2) (K_l11Walk (n + 1)).1 (K_l11Walk (n + 1)).2 (x) := by kernel_rfl

theorem vc_l11Cost (c : Pl.Cnf) (most : Int) : (condP (Decidable.decide (most < (1 : Int))) ((1 : Int) = Pl.costOf c most)
 (Exists fun (x : WX) =>
 ((c.fst = x.fst.fst ∧ Is (intss c.snd) (intss x.fst.snd) ∧ True) ∧
 IntKind.i64.wrap (most + (1 : Int)) = x.snd.fst ∧ Is (AV.sl ((0 : Nat)) (1 : Nat) fun (i j : Nat) => i64 (Int.ofNat ((0 : Nat)))) (ints x.snd.snd) ∧ True) ∧
 ((Pl.cnfOk x.fst = Bool.true ∧ SzC x.fst ∧ Pl.Rgt x.fst x.snd.snd) ∧ (1 : Int) ≤ x.snd.fst ∧ x.snd.fst ≤ (131 : Int)) ∧ (Pl.walk x.fst x.snd.fst x.snd.snd).fst = Pl.costOf c most)) = Goal Try.prog [K_l11WalkA] ([]) K_l11Cost.1 K_l11Cost.2 ((c, most)) := by kernel_rfl

theorem vc_l11Search (c : Pl.Cnf) (f : Int) : (Exists fun (x : Pl.Cnf × Int) =>
 ((c.fst = x.fst.fst ∧ Is (intss c.snd) (intss x.fst.snd) ∧ True) ∧ f = x.snd ∧ Is (AV.lit (0 : Nat) (1 : Nat) (rowsCell [])) (ints []) ∧ True) ∧
 (Pl.cnfOk x.fst = Bool.true ∧ SzC x.fst ∧ (0 : Int) ≤ x.snd ∧ x.snd ≤ (130 : Int)) ∧
 condP (Decidable.decide (f < Pl.costOf x.fst x.snd))
 (((-1 : Int) = (Pl.search c f).fst ∧ Is (AV.lit (0 : Nat) (1 : Nat) (rowsCell [])) (intss (Pl.search c f).snd.fst) ∧ True) ∧
 Is (AV.lit (0 : Nat) (1 : Nat) (rowsCell [])) (bools (Pl.search c f).snd.snd.fst) ∧ Bool.false = (Pl.search c f).snd.snd.snd ∧ True)
 (Exists fun (x : FX) =>
 ((c.fst = x.fst.fst ∧ Is (intss c.snd) (intss x.fst.snd) ∧ True) ∧
 (f = x.snd.fst ∧ Is (AV.lit (0 : Nat) (1 : Nat) (rowsCell [])) (intss x.snd.snd.fst) ∧ True) ∧
 Is (AV.lit (0 : Nat) (1 : Nat) (rowsCell [])) (ints x.snd.snd.snd) ∧ True) ∧
 ((Pl.cnfOk x.fst = Bool.true ∧ SzC x.fst ∧ Pl.Rgt x.fst x.snd.snd.snd) ∧
 (↑(Pl.hunt x.fst x.snd.snd.snd).fst : Int) ≤ x.snd.fst ∧ x.snd.fst ≤ (130 : Int) ∧ (↑x.snd.snd.fst.length : Int) + x.snd.fst ≤ (1000 : Int)) ∧
 (x.snd.fst - (↑(Pl.hunt x.fst x.snd.snd.snd).fst : Int) = (Pl.search c f).fst ∧
 Is (intss (x.snd.snd.fst ++ (Pl.hunt x.fst x.snd.snd.snd).snd.fst)) (intss (Pl.search c f).snd.fst) ∧ True) ∧
 Is (bools (Pl.hunt x.fst x.snd.snd.snd).snd.snd.fst) (bools (Pl.search c f).snd.snd.fst) ∧ (Pl.hunt x.fst x.snd.snd.snd).snd.snd.snd = (Pl.search c f).snd.snd.snd ∧ True)) = Goal Try.prog [K_l11Cost, K_l11FindA] ([]) K_l11Search.1 K_l11Search.2 ((c, f)) := by kernel_rfl

theorem vc_sHuntRun (c : Pl.Cnf) (f : Int) : (Exists fun (x : Pl.Cnf) =>
 ((c.fst = x.fst ∧ Is (intss c.snd) (intss x.snd) ∧ True) ∧ True) ∧
 SzC x ∧
 condP (!Pl.cnfOk x)
 (Is (AV.lit (0 : Nat) (1 : Nat) (rowsCell [])) (bools (Pl.huntRun c f).fst) ∧
 Is (AV.lit (0 : Nat) (1 : Nat) (rowsCell [])) (intss (Pl.huntRun c f).snd.fst) ∧ Bool.false = (Pl.huntRun c f).snd.snd ∧ True)
 (condP (Decidable.decide (f < (0 : Int)))
 (Is (AV.lit (0 : Nat) (1 : Nat) (rowsCell [])) (bools (Pl.huntRun c f).fst) ∧
 Is (AV.lit (0 : Nat) (1 : Nat) (rowsCell [])) (intss (Pl.huntRun c f).snd.fst) ∧ Bool.false = (Pl.huntRun c f).snd.snd ∧ True)
 (condP (Decidable.decide (f > (130 : Int)))
 (Is (AV.lit (0 : Nat) (1 : Nat) (rowsCell [])) (bools (Pl.huntRun c f).fst) ∧
 Is (AV.lit (0 : Nat) (1 : Nat) (rowsCell [])) (intss (Pl.huntRun c f).snd.fst) ∧ Bool.false = (Pl.huntRun c f).snd.snd ∧ True)
 (Exists fun (x : Pl.Cnf × Int) =>
 ((c.fst = x.fst.fst ∧ Is (intss c.snd) (intss x.fst.snd) ∧ True) ∧ f = x.snd ∧ True) ∧
 (Pl.cnfOk x.fst = Bool.true ∧ SzC x.fst ∧ (0 : Int) ≤ x.snd ∧ x.snd ≤ (130 : Int)) ∧
 condP (Pl.search x.fst x.snd).snd.snd.snd
 (Is (bools (Pl.search x.fst x.snd).snd.snd.fst) (bools (Pl.huntRun c f).fst) ∧
 Is (AV.lit (0 : Nat) (1 : Nat) (rowsCell [])) (intss (Pl.huntRun c f).snd.fst) ∧ Bool.true = (Pl.huntRun c f).snd.snd ∧ True)
 (condP (Decidable.decide ((Pl.search x.fst x.snd).fst < (0 : Int)))
 (Is (AV.lit (0 : Nat) (1 : Nat) (rowsCell [])) (bools (Pl.huntRun c f).fst) ∧
 Is (AV.lit (0 : Nat) (1 : Nat) (rowsCell [])) (intss (Pl.huntRun c f).snd.fst) ∧ Bool.false = (Pl.huntRun c f).snd.snd ∧ True)
 (condP (Decidable.decide (IntKind.i64.wrap ((↑c.snd.length : Int) + (↑(Pl.search x.fst x.snd).snd.fst.length : Int)) > (400 : Int)))
 (Is (AV.lit (0 : Nat) (1 : Nat) (rowsCell [])) (bools (Pl.huntRun c f).fst) ∧
 Is (AV.lit (0 : Nat) (1 : Nat) (rowsCell [])) (intss (Pl.huntRun c f).snd.fst) ∧ Bool.false = (Pl.huntRun c f).snd.snd ∧ True)
 (Is (AV.lit (0 : Nat) (1 : Nat) (rowsCell [])) (bools (Pl.huntRun c f).fst) ∧
 Is (intss (Pl.search x.fst x.snd).snd.fst) (intss (Pl.huntRun c f).snd.fst) ∧ Bool.true = (Pl.huntRun c f).snd.snd ∧ True))))))) = Goal Try.prog [K_sCnfOk, K_l11Search] ([]) K_sHuntRun.1 K_sHuntRun.2 ((c, f)) := by kernel_rfl

theorem vc_hcall (n : Nat) (x : FX) : (condP (x.snd.fst == (0 : Int))
 (Exists fun (y : Pl.HY) =>
 Pl.HuntP x.fst x.snd.snd.snd x.snd.fst x.snd.snd.fst y ∧
 ((Is (AV.lit (0 : Nat) (1 : Nat) fun (x x_1 : Nat) => AV.any) (bools y.snd.snd.snd.fst) ∧ Bool.false = y.snd.snd.snd.snd ∧ True) ∧ True) ∧
 (x.fst.fst = x.fst.fst ∧
 Is (intss x.fst.snd) (intss x.fst.snd) ∧ x.snd.fst = y.fst ∧ ((0 : Nat) = (0 : Nat) ∧ x.snd.snd.fst.length = y.snd.fst.length) ∧ Bool.true = y.snd.snd.fst ∧ True) ∧
 True ∧ IsO (arII x.snd.snd.fst) (arII y.snd.fst) ∧ True)
 (Exists fun (x_1 : List (List Int) × List Int) =>
 (Is (intss x.fst.snd) (intss x_1.fst) ∧ Is (ints x.snd.snd.snd) (ints x_1.snd) ∧ True) ∧
 ((Exists fun (m : Int) => Pl.cnfOk (m, x_1.fst) = Bool.true) ∧ SzL x_1.fst ∧ SzH x_1.snd) ∧
 condP (!(Pl.unitsI x_1.fst x_1.snd).snd)
 ((0 : Int) ≤ x.fst.fst ∧
 x.fst.fst ≤ x.fst.fst ∧
 (↑(1 : Nat) : Int) * x.fst.fst ≤ (140737488355328 : Int) ∧
 x.fst.fst ≤ (140737488355328 : Int) ∧
 (Exists fun (x_2 : Nat × Int × List Bool) =>
 ((↑x_2.fst : Int) ≤ x.fst.fst ∧
 x_2.snd.fst = Pl.freeL (Pl.unitsS x.fst.snd x.snd.snd.snd).fst (List.drop x_2.fst (Pl.marks x.fst.fst)) ∧
 x_2.snd.snd = List.replicate x_2.fst Bool.false ++ Pl.valsL (Pl.unitsS x.fst.snd x.snd.snd.snd).fst (List.drop x_2.fst (Pl.marks x.fst.fst))) ∧
 ((0 : Nat) = (0 : Nat) ∧
 Is (ints x.snd.snd.snd) (ints x.snd.snd.snd) ∧
 Is (ints (Pl.unitsI x_1.fst x_1.snd).fst) (ints (Pl.unitsS x.fst.snd x.snd.snd.snd).fst) ∧
 (0 : Int) = x_2.snd.fst ∧ ((0 : Nat) = (0 : Nat) ∧ x.fst.fst.toNat = x_2.snd.snd.length) ∧ x.fst.fst = (↑x_2.fst : Int) ∧ True) ∧
 (x.fst.fst = x.fst.fst ∧
 Is (intss x.fst.snd) (intss x.fst.snd) ∧
 IntKind.i64.wrap (x.snd.fst - (1 : Int)) = x.snd.fst - (1 : Int) ∧
 ((0 : Nat) = (0 : Nat) ∧ x.snd.snd.fst.length = x.snd.snd.fst.length) ∧ Bool.false = Bool.false ∧ True) ∧
 IsO (arII x.snd.snd.fst) (arII x.snd.snd.fst) ∧
 IsO (AObj.arr x.fst.fst.toNat (1 : Nat) fun (x j : Nat) => [bl Bool.false].getD j AV.any) (arB x_2.snd.snd) ∧ True) ∧
 ∀ (x_2 : Nat × Int × List Bool),
 (↑x_2.fst : Int) ≤ x.fst.fst ∧
 x_2.snd.fst = Pl.freeL (Pl.unitsS x.fst.snd x.snd.snd.snd).fst (List.drop x_2.fst (Pl.marks x.fst.fst)) ∧
 x_2.snd.snd = List.replicate x_2.fst Bool.false ++ Pl.valsL (Pl.unitsS x.fst.snd x.snd.snd.snd).fst (List.drop x_2.fst (Pl.marks x.fst.fst)) →
 condP (Decidable.decide ((↑x_2.fst : Int) > (0 : Int)))
 (Exists fun (x_3 : List Int × Int) =>
 (Is (ints (Pl.unitsS x.fst.snd x.snd.snd.snd).fst) (ints x_3.fst) ∧ (↑x_2.fst : Int) = x_3.snd ∧ True) ∧
 Sz x_3.fst ∧
 condP (x_3.fst.contains x_3.snd)
 (((0 : Int) ≤ IntKind.i64.wrap ((↑x_2.fst : Int) - (1 : Int)) ∧ IntKind.i64.wrap ((↑x_2.fst : Int) - (1 : Int)) < (↑x_2.snd.snd.length : Int)) ∧
 (IntKind.i64.wrap ((↑x_2.fst : Int) - (1 : Int))).toNat < x_2.snd.snd.length ∧
 Exists fun (x' : Nat × Int × List Bool) =>
 ((↑x'.fst : Int) ≤ x.fst.fst ∧
 x'.snd.fst = Pl.freeL (Pl.unitsS x.fst.snd x.snd.snd.snd).fst (List.drop x'.fst (Pl.marks x.fst.fst)) ∧
 x'.snd.snd = List.replicate x'.fst Bool.false ++ Pl.valsL (Pl.unitsS x.fst.snd x.snd.snd.snd).fst (List.drop x'.fst (Pl.marks x.fst.fst))) ∧
 x'.fst < x_2.fst ∧
 ((0 : Nat) = (0 : Nat) ∧
 Is (ints x.snd.snd.snd) (ints x.snd.snd.snd) ∧
 Is (ints (Pl.unitsS x.fst.snd x.snd.snd.snd).fst) (ints (Pl.unitsS x.fst.snd x.snd.snd.snd).fst) ∧
 x_2.snd.fst = x'.snd.fst ∧
 ((0 : Nat) = (0 : Nat) ∧ x_2.snd.snd.length = x'.snd.snd.length) ∧ IntKind.i64.wrap ((↑x_2.fst : Int) - (1 : Int)) = (↑x'.fst : Int) ∧ True) ∧
 (x.fst.fst = x.fst.fst ∧
 Is (intss x.fst.snd) (intss x.fst.snd) ∧
 x.snd.fst - (1 : Int) = x.snd.fst - (1 : Int) ∧
 ((0 : Nat) = (0 : Nat) ∧ x.snd.snd.fst.length = x.snd.snd.fst.length) ∧ Bool.false = Bool.false ∧ True) ∧
 IsO (arII x.snd.snd.fst) (arII x.snd.snd.fst) ∧
 IsO
 (AObj.arr x_2.snd.snd.length (1 : Nat)
 (storeC (cB x_2.snd.snd) (IntKind.i64.wrap ((↑x_2.fst : Int) - (1 : Int))).toNat (0 : Nat) [bl Bool.true]))
 (arB x'.snd.snd) ∧
 True)
 (Exists fun (x_4 : List Int × Int) =>
 (Is (ints (Pl.unitsS x.fst.snd x.snd.snd.snd).fst) (ints x_4.fst) ∧ IntKind.i64.wrap ((0 : Int) - (↑x_2.fst : Int)) = x_4.snd ∧ True) ∧
 Sz x_4.fst ∧
 condP (!x_4.fst.contains x_4.snd)
 (Exists fun (x' : Nat × Int × List Bool) =>
 ((↑x'.fst : Int) ≤ x.fst.fst ∧
 x'.snd.fst = Pl.freeL (Pl.unitsS x.fst.snd x.snd.snd.snd).fst (List.drop x'.fst (Pl.marks x.fst.fst)) ∧
 x'.snd.snd = List.replicate x'.fst Bool.false ++ Pl.valsL (Pl.unitsS x.fst.snd x.snd.snd.snd).fst (List.drop x'.fst (Pl.marks x.fst.fst))) ∧
 x'.fst < x_2.fst ∧
 ((0 : Nat) = (0 : Nat) ∧
 Is (ints x.snd.snd.snd) (ints x.snd.snd.snd) ∧
 Is (ints (Pl.unitsS x.fst.snd x.snd.snd.snd).fst) (ints (Pl.unitsS x.fst.snd x.snd.snd.snd).fst) ∧
 (↑x_2.fst : Int) = x'.snd.fst ∧
 ((0 : Nat) = (0 : Nat) ∧ x_2.snd.snd.length = x'.snd.snd.length) ∧
 IntKind.i64.wrap ((↑x_2.fst : Int) - (1 : Int)) = (↑x'.fst : Int) ∧ True) ∧
 (x.fst.fst = x.fst.fst ∧
 Is (intss x.fst.snd) (intss x.fst.snd) ∧
 x.snd.fst - (1 : Int) = x.snd.fst - (1 : Int) ∧
 ((0 : Nat) = (0 : Nat) ∧ x.snd.snd.fst.length = x.snd.snd.fst.length) ∧ Bool.false = Bool.false ∧ True) ∧
 IsO (arII x.snd.snd.fst) (arII x.snd.snd.fst) ∧ IsO (arB x_2.snd.snd) (arB x'.snd.snd) ∧ True)
 (Exists fun (x' : Nat × Int × List Bool) =>
 ((↑x'.fst : Int) ≤ x.fst.fst ∧
 x'.snd.fst = Pl.freeL (Pl.unitsS x.fst.snd x.snd.snd.snd).fst (List.drop x'.fst (Pl.marks x.fst.fst)) ∧
 x'.snd.snd = List.replicate x'.fst Bool.false ++ Pl.valsL (Pl.unitsS x.fst.snd x.snd.snd.snd).fst (List.drop x'.fst (Pl.marks x.fst.fst))) ∧
 x'.fst < x_2.fst ∧
 ((0 : Nat) = (0 : Nat) ∧
 Is (ints x.snd.snd.snd) (ints x.snd.snd.snd) ∧
 Is (ints (Pl.unitsS x.fst.snd x.snd.snd.snd).fst) (ints (Pl.unitsS x.fst.snd x.snd.snd.snd).fst) ∧
 x_2.snd.fst = x'.snd.fst ∧
 ((0 : Nat) = (0 : Nat) ∧ x_2.snd.snd.length = x'.snd.snd.length) ∧
 IntKind.i64.wrap ((↑x_2.fst : Int) - (1 : Int)) = (↑x'.fst : Int) ∧ True) ∧
 (x.fst.fst = x.fst.fst ∧
 Is (intss x.fst.snd) (intss x.fst.snd) ∧
 x.snd.fst - (1 : Int) = x.snd.fst - (1 : Int) ∧
 ((0 : Nat) = (0 : Nat) ∧ x.snd.snd.fst.length = x.snd.snd.fst.length) ∧ Bool.false = Bool.false ∧ True) ∧
 IsO (arII x.snd.snd.fst) (arII x.snd.snd.fst) ∧ IsO (arB x_2.snd.snd) (arB x'.snd.snd) ∧ True)))
 (condP (x_2.snd.fst == (0 : Int))
 (Exists fun (y : Pl.HY) =>
 Pl.HuntP x.fst x.snd.snd.snd x.snd.fst x.snd.snd.fst y ∧
 (0 : Nat) + x_2.snd.snd.length ≤ x_2.snd.snd.length ∧
 ((Is (bools x_2.snd.snd) (bools y.snd.snd.snd.fst) ∧ Bool.true = y.snd.snd.snd.snd ∧ True) ∧ True) ∧
 (x.fst.fst = x.fst.fst ∧
 Is (intss x.fst.snd) (intss x.fst.snd) ∧
 x.snd.fst - (1 : Int) = y.fst ∧ ((0 : Nat) = (0 : Nat) ∧ x.snd.snd.fst.length = y.snd.fst.length) ∧ Bool.false = y.snd.snd.fst ∧ True) ∧
 True ∧ IsO (arII x.snd.snd.fst) (arII y.snd.fst) ∧ True)
 ((Exists fun (x_3 : Nat × Int × List (List Int)) =>
 Pl.HuntI x.fst x.snd.snd.snd x.snd.fst x.snd.snd.fst x_3.fst x_3.snd.fst x_3.snd.snd ∧
 ((0 : Nat) = (0 : Nat) ∧
 Is (ints x.snd.snd.snd) (ints x.snd.snd.snd) ∧
 Is (AV.lit (2 : Nat) (1 : Nat) (rowsCell [[i64 (IntKind.i64.wrap ((0 : Int) - x_2.snd.fst))], [i64 x_2.snd.fst]]))
 (ints [-Pl.next x.fst x.snd.snd.snd, Pl.next x.fst x.snd.snd.snd]) ∧
 (↑(2 : Nat) : Int) = (2 : Int) ∧ (0 : Int) = (↑x_3.fst : Int) ∧ True) ∧
 (x.fst.fst = x.fst.fst ∧
 Is (intss x.fst.snd) (intss x.fst.snd) ∧
 x.snd.fst - (1 : Int) = x_3.snd.fst ∧ ((0 : Nat) = (0 : Nat) ∧ x.snd.snd.fst.length = x_3.snd.snd.length) ∧ Bool.false = Bool.false ∧ True) ∧
 True ∧ IsO (arII x.snd.snd.fst) (arII x_3.snd.snd) ∧ True) ∧
 ∀ (x_3 : Nat × Int × List (List Int)),
 Pl.HuntI x.fst x.snd.snd.snd x.snd.fst x.snd.snd.fst x_3.fst x_3.snd.fst x_3.snd.snd →
 condP (Decidable.decide ((↑x_3.fst : Int) < (2 : Int)))
 (((0 : Int) ≤ (↑x_3.fst : Int) ∧ (↑x_3.fst : Int) < (↑((2 : Nat)) : Int)) ∧
 x_3.fst < (2 : Nat) ∧
 Exists fun (x_4 : List Int) =>
 SzH x_4 ∧
 ((Is (ints x.snd.snd.snd) (ints x_4) ∧ True) ∧ True) ∧
 ∀ (y : Unit),
 True →
 (0 : Nat) + x_4.length ≤ x_4.length ∧
 (x_4.length + (1 : Nat)) * (8 : Nat) ≤ (70368744177664 : Nat) ∧
 (0 : Nat) + (x_4.length + (1 : Nat)) ≤ x_4.length + (1 : Nat) ∧
 Exists fun (x_5 : FX) =>
 (((Pl.cnfOk x_5.fst = Bool.true ∧ SzC x_5.fst ∧ Pl.Rgt x_5.fst x_5.snd.snd.snd) ∧
 (0 : Int) ≤ x_5.snd.fst ∧ x_5.snd.fst ≤ (130 : Int) ∧ (↑x_5.snd.snd.fst.length : Int) + x_5.snd.fst ≤ (1000 : Int)) ∧
 (61 : Nat) - x_5.snd.snd.snd.length < n) ∧
 (((0 : Nat) = (0 : Nat) ∧
 Is
 (AV.sl (x_4.length + (1 : Nat)) (1 : Nat) fun (i j : Nat) =>
 joinC x_4.length (cI x_4)
 (rowsCell [[i64 ([-Pl.next x.fst x.snd.snd.snd, Pl.next x.fst x.snd.snd.snd].getD x_3.fst (0 : Int))]]) i j)
 (ints x_5.snd.snd.snd) ∧
 True) ∧
 (x.fst.fst = x_5.fst.fst ∧
 Is (intss x.fst.snd) (intss x_5.fst.snd) ∧
 x_3.snd.fst = x_5.snd.fst ∧
 ((0 : Nat) = (0 : Nat) ∧ x_3.snd.snd.length = x_5.snd.snd.fst.length) ∧ Bool.false = Bool.false ∧ True) ∧
 IsO (arII x_3.snd.snd) (arII x_5.snd.snd.fst) ∧ True) ∧
 ∀ (y : Pl.HY),
 Pl.HuntP x_5.fst x_5.snd.snd.snd x_5.snd.fst x_5.snd.snd.fst y →
 condP y.snd.snd.snd.snd
 (Exists fun (y_1 : Pl.HY) =>
 Pl.HuntP x.fst x.snd.snd.snd x.snd.fst x.snd.snd.fst y_1 ∧
 ((Is (bools y.snd.snd.snd.fst) (bools y_1.snd.snd.snd.fst) ∧ y.snd.snd.snd.snd = y_1.snd.snd.snd.snd ∧ True) ∧ True) ∧
 (x_5.fst.fst = x.fst.fst ∧
 Is (intss x_5.fst.snd) (intss x.fst.snd) ∧
 y.fst = y_1.fst ∧
 ((0 : Nat) = (0 : Nat) ∧ y.snd.fst.length = y_1.snd.fst.length) ∧ y.snd.snd.fst = y_1.snd.snd.fst ∧ True) ∧
 True ∧ IsO (arII y.snd.fst) (arII y_1.snd.fst) ∧ True)
 (condP y.snd.snd.fst
 (Exists fun (y_1 : Pl.HY) =>
 Pl.HuntP x.fst x.snd.snd.snd x.snd.fst x.snd.snd.fst y_1 ∧
 ((Is (bools y.snd.snd.snd.fst) (bools y_1.snd.snd.snd.fst) ∧ y.snd.snd.snd.snd = y_1.snd.snd.snd.snd ∧ True) ∧
 True) ∧
 (x_5.fst.fst = x.fst.fst ∧
 Is (intss x_5.fst.snd) (intss x.fst.snd) ∧
 y.fst = y_1.fst ∧
 ((0 : Nat) = (0 : Nat) ∧ y.snd.fst.length = y_1.snd.fst.length) ∧ y.snd.snd.fst = y_1.snd.snd.fst ∧ True) ∧
 True ∧ IsO (arII y.snd.fst) (arII y_1.snd.fst) ∧ True)
 (Exists fun (x' : Nat × Int × List (List Int)) =>
 Pl.HuntI x.fst x.snd.snd.snd x.snd.fst x.snd.snd.fst x'.fst x'.snd.fst x'.snd.snd ∧
 (2 : Nat) - x'.fst < (2 : Nat) - x_3.fst ∧
 ((0 : Nat) = (0 : Nat) ∧
 Is (ints x.snd.snd.snd) (ints x.snd.snd.snd) ∧
 Is (AV.sl ((2 : Nat)) (1 : Nat) (cI [-Pl.next x.fst x.snd.snd.snd, Pl.next x.fst x.snd.snd.snd]))
 (ints [-Pl.next x.fst x.snd.snd.snd, Pl.next x.fst x.snd.snd.snd]) ∧
 (2 : Int) = (2 : Int) ∧ IntKind.i64.wrap ((↑x_3.fst : Int) + (1 : Int)) = (↑x'.fst : Int) ∧ True) ∧
 (x_5.fst.fst = x.fst.fst ∧
 Is (intss x_5.fst.snd) (intss x.fst.snd) ∧
 y.fst = x'.snd.fst ∧
 ((0 : Nat) = (0 : Nat) ∧ y.snd.fst.length = x'.snd.snd.length) ∧ y.snd.snd.fst = Bool.false ∧ True) ∧
 True ∧ IsO (arII y.snd.fst) (arII x'.snd.snd) ∧ True)))
 (Exists fun (x_4 : List Int) =>
 (Is (ints x.snd.snd.snd) (ints x_4) ∧ True) ∧
 SzH x_4 ∧
 Exists fun (x_5 : List Int) =>
 (Is (ints (Pl.nots x_4)) (ints x_5) ∧ True) ∧
 x_5.length ≤ (1073741824 : Nat) ∧
 (0 : Nat) + x_3.snd.snd.length ≤ x_3.snd.snd.length ∧
 (x_3.snd.snd.length + (1 : Nat)) * (24 : Nat) ≤ (70368744177664 : Nat) ∧
 Exists fun (y : Pl.HY) =>
 Pl.HuntP x.fst x.snd.snd.snd x.snd.fst x.snd.snd.fst y ∧
 ((Is (AV.lit (0 : Nat) (1 : Nat) fun (x x_6 : Nat) => AV.any) (bools y.snd.snd.snd.fst) ∧ Bool.false = y.snd.snd.snd.snd ∧ True) ∧
 True) ∧
 (x.fst.fst = x.fst.fst ∧
 Is (intss x.fst.snd) (intss x.fst.snd) ∧
 x_3.snd.fst = y.fst ∧ ((0 : Nat) = (0 : Nat) ∧ x_3.snd.snd.length + (1 : Nat) = y.snd.fst.length) ∧ Bool.false = y.snd.snd.fst ∧ True) ∧
 True ∧
 IsO
 (AObj.arr (x_3.snd.snd.length + (1 : Nat)) (1 : Nat)
 (joinC x_3.snd.snd.length (cII x_3.snd.snd) (rowsCell [[ints (Pl.clauseOf x_5).fst]])))
 (arII y.snd.fst) ∧
 True))))
 (Exists fun (x_2 : List Int) =>
 (Is (ints x.snd.snd.snd) (ints x_2) ∧ True) ∧
 SzH x_2 ∧
 Exists fun (x_3 : List Int) =>
 (Is (ints (Pl.nots x_2)) (ints x_3) ∧ True) ∧
 x_3.length ≤ (1073741824 : Nat) ∧
 (0 : Nat) + x.snd.snd.fst.length ≤ x.snd.snd.fst.length ∧
 (x.snd.snd.fst.length + (1 : Nat)) * (24 : Nat) ≤ (70368744177664 : Nat) ∧
 Exists fun (y : Pl.HY) =>
 Pl.HuntP x.fst x.snd.snd.snd x.snd.fst x.snd.snd.fst y ∧
 ((Is (AV.lit (0 : Nat) (1 : Nat) fun (x x_4 : Nat) => AV.any) (bools y.snd.snd.snd.fst) ∧ Bool.false = y.snd.snd.snd.snd ∧ True) ∧ True) ∧
 (x.fst.fst = x.fst.fst ∧
 Is (intss x.fst.snd) (intss x.fst.snd) ∧
 IntKind.i64.wrap (x.snd.fst - (1 : Int)) = y.fst ∧
 ((0 : Nat) = (0 : Nat) ∧ x.snd.snd.fst.length + (1 : Nat) = y.snd.fst.length) ∧ Bool.false = y.snd.snd.fst ∧ True) ∧
 True ∧
 IsO
 (AObj.arr (x.snd.snd.fst.length + (1 : Nat)) (1 : Nat)
 (joinC x.snd.snd.fst.length (cII x.snd.snd.fst) (rowsCell [[ints (Pl.clauseOf x_3).fst]])))
 (arII y.snd.fst) ∧
 True))) = Goal Try.prog [K_units, K_Contains, K_Clone, (K_hcall n), K_negated, K_iClauseOf] (A_hcall x.1 x.2.1 x.2.2.1 x.2.2.2) (K_hcall (n + 1)).1 (K_hcall (n + 1)).2 (x) := by kernel_rfl

theorem vc_iHuntRun (c : Pl.Cnf) (f : Int) : (Exists fun (x : Pl.Cnf) =>
 ((c.fst = x.fst ∧ Is (intss c.snd) (intss x.snd) ∧ True) ∧ True) ∧
 SzC x ∧
 condP (!Pl.cnfOk x)
 (Is (AV.lit (0 : Nat) (1 : Nat) fun (x x_1 : Nat) => AV.any) (bools (Pl.huntRun c f).fst) ∧
 Is (AV.lit (0 : Nat) (1 : Nat) fun (x x_1 : Nat) => AV.any) (intss (Pl.huntRun c f).snd.fst) ∧ Bool.false = (Pl.huntRun c f).snd.snd ∧ True)
 (Exists fun (x : Int × Int × Int) =>
 (f = x.fst ∧ (0 : Int) = x.snd.fst ∧ (130 : Int) = x.snd.snd ∧ True) ∧
 True ∧
 condP (!Pl.withinI x.fst x.snd.fst x.snd.snd)
 (Is (AV.lit (0 : Nat) (1 : Nat) fun (x x_1 : Nat) => AV.any) (bools (Pl.huntRun c f).fst) ∧
 Is (AV.lit (0 : Nat) (1 : Nat) fun (x x_1 : Nat) => AV.any) (intss (Pl.huntRun c f).snd.fst) ∧ Bool.false = (Pl.huntRun c f).snd.snd ∧ True)
 (Exists fun (x : FX) =>
 ((Pl.cnfOk x.fst = Bool.true ∧ SzC x.fst ∧ Pl.Rgt x.fst x.snd.snd.snd) ∧
 (0 : Int) ≤ x.snd.fst ∧ x.snd.fst ≤ (130 : Int) ∧ (↑x.snd.snd.fst.length : Int) + x.snd.fst ≤ (1000 : Int)) ∧
 (((0 : Nat) = (0 : Nat) ∧ Is (AV.lit (0 : Nat) (1 : Nat) fun (x x_1 : Nat) => AV.any) (ints x.snd.snd.snd) ∧ True) ∧
 (c.fst = x.fst.fst ∧
 Is (intss c.snd) (intss x.fst.snd) ∧
 f = x.snd.fst ∧ ((0 : Nat) = (0 : Nat) ∧ (0 : Nat) = (0 : Nat) ∧ x.snd.snd.fst.length = (0 : Nat)) ∧ Bool.false = Bool.false ∧ True) ∧
 x.snd.snd.fst.length = (0 : Nat) ∧ True) ∧
 ∀ (y : Pl.HY),
 Pl.HuntP x.fst x.snd.snd.snd x.snd.fst x.snd.snd.fst y →
 condP y.snd.snd.snd.snd
 (Is (bools y.snd.snd.snd.fst) (bools (Pl.huntRun c f).fst) ∧
 Is (AV.lit (0 : Nat) (1 : Nat) fun (x x_1 : Nat) => AV.any) (intss (Pl.huntRun c f).snd.fst) ∧ Bool.true = (Pl.huntRun c f).snd.snd ∧ True)
 (condP y.snd.snd.fst
 (Is (AV.lit (0 : Nat) (1 : Nat) fun (x x_1 : Nat) => AV.any) (bools (Pl.huntRun c f).fst) ∧
 Is (AV.lit (0 : Nat) (1 : Nat) fun (x x_1 : Nat) => AV.any) (intss (Pl.huntRun c f).snd.fst) ∧ Bool.false = (Pl.huntRun c f).snd.snd ∧ True)
 (condP (Decidable.decide (IntKind.i64.wrap ((↑y.snd.fst.length : Int) + (↑c.snd.length : Int)) > (400 : Int)))
 (Is (AV.lit (0 : Nat) (1 : Nat) fun (x x_1 : Nat) => AV.any) (bools (Pl.huntRun c f).fst) ∧
 Is (AV.lit (0 : Nat) (1 : Nat) fun (x x_1 : Nat) => AV.any) (intss (Pl.huntRun c f).snd.fst) ∧ Bool.false = (Pl.huntRun c f).snd.snd ∧ True)
 ((0 : Nat) + y.snd.fst.length ≤ y.snd.fst.length ∧
 Is (AV.lit (0 : Nat) (1 : Nat) fun (x x_1 : Nat) => AV.any) (bools (Pl.huntRun c f).fst) ∧
 Is (intss y.snd.fst) (intss (Pl.huntRun c f).snd.fst) ∧ Bool.true = (Pl.huntRun c f).snd.snd ∧ True)))))) = Goal Try.prog [K_iCnfOk, K_within, K_hcallA] ([]) K_iHuntRun.1 K_iHuntRun.2 ((c, f)) := by kernel_rfl

theorem vc_DrawHuntRun (b : List Int) : (Exists fun (x : List Int) =>
 (Sz x ∧ Byt x) ∧
 ((Is (byts b) (byts x) ∧ True) ∧ True) ∧
 ∀ (y : List Int),
 Rd (0 : Int) y (0 : Int) →
 Exists fun (x : List Int × Int) =>
 Rd (137438953472 : Int) x.fst x.snd ∧
 (((0 : Nat) = (0 : Nat) ∧ True) ∧ (Is (byts y) (byts x.fst) ∧ (0 : Int) = x.snd ∧ True) ∧ True) ∧
 ∀ (y : Pl.Cnf × Int),
 Sm y.fst ∧ x.snd ≤ y.snd ∧ y.snd ≤ x.snd + (10000 : Int) →
 (Exists fun (x_1 : List Int × Int × List Int) =>
 (Rd (1099511627776 : Int) x_1.fst x_1.snd.fst ∧ x_1.snd.snd ≠ [] ∧ Sz x_1.snd.snd) ∧
 (((0 : Nat) = (0 : Nat) ∧
 Is
 (AV.lit (8 : Nat) (1 : Nat)
 (rowsCell
 [[i64 (130 : Int)], [i64 (130 : Int)], [i64 (40 : Int)], [i64 (3 : Int)], [i64 (1 : Int)], [i64 (0 : Int)], [i64 (-1 : Int)],
 [i64 (131 : Int)]]))
 (ints x_1.snd.snd) ∧
 True) ∧
 (Is (byts x.fst) (byts x_1.fst) ∧ y.snd = x_1.snd.fst ∧ True) ∧ True) ∧
 ∀ (y_1 : Int),
 y_1 ∈ x_1.snd.snd →
 Exists fun (y_2 : Pl.Cnf × Int) =>
 Sm y_2.fst ∧ (((y.fst.fst = y_2.fst.fst ∧ Is (intss y.fst.snd) (intss y_2.fst.snd) ∧ True) ∧ y_1 = y_2.snd ∧ True) ∧ True) ∧ True) ∧
 Exists fun (x_1 : List Int × Int × List Int) =>
 (Rd (1099511627776 : Int) x_1.fst x_1.snd.fst ∧ x_1.snd.snd ≠ [] ∧ Sz x_1.snd.snd) ∧
 (((0 : Nat) = (0 : Nat) ∧
 Is
 (AV.lit (8 : Nat) (1 : Nat)
 (rowsCell
 [[i64 (130 : Int)], [i64 (130 : Int)], [i64 (40 : Int)], [i64 (3 : Int)], [i64 (1 : Int)], [i64 (0 : Int)], [i64 (-1 : Int)],
 [i64 (131 : Int)]]))
 (ints x_1.snd.snd) ∧
 True) ∧
 (Is (byts x.fst) (byts x_1.fst) ∧ y.snd = x_1.snd.fst ∧ True) ∧ True) ∧
 ∀ (y_1 : Int),
 y_1 ∈ x_1.snd.snd →
 Exists fun (y_2 : Pl.Cnf × Int) =>
 Sm y_2.fst ∧ (((y.fst.fst = y_2.fst.fst ∧ Is (intss y.fst.snd) (intss y_2.fst.snd) ∧ True) ∧ y_1 = y_2.snd ∧ True) ∧ True) ∧ True) = Goal Try.prog [K_l16Open, K_l10Cnf, K_num] ([]) K_DrawHuntRun.1 K_DrawHuntRun.2 (b) := by kernel_rfl

theorem vc_wpBools (l m : List Bool) : (condP ((↑l.length : Int) != (↑m.length : Int)) (Bool.false = Decidable.decide (l = m))
 ((Exists fun (x : Nat) =>
 (x ≤ l.length ∧ l.length = m.length ∧ (l = m ↔ List.drop x l = List.drop x m)) ∧ (Is (bools l) (bools l) ∧ Is (bools m) (bools m) ∧ (0 : Int) = (↑x : Int) ∧ True) ∧ True) ∧
 ∀ (x : Nat),
 x ≤ l.length ∧ l.length = m.length ∧ (l = m ↔ List.drop x l = List.drop x m) →
 condP (Decidable.decide ((↑x : Int) < (↑l.length : Int)))
 (((0 : Int) ≤ (↑x : Int) ∧ (↑x : Int) < (↑l.length : Int)) ∧
 x < l.length ∧
 ((0 : Int) ≤ (↑x : Int) ∧ (↑x : Int) < (↑m.length : Int)) ∧
 x < m.length ∧
 condP (!l.getD x Bool.false == m.getD x Bool.false) (Bool.false = Decidable.decide (l = m))
 (Exists fun (x' : Nat) =>
 (x' ≤ l.length ∧ l.length = m.length ∧ (l = m ↔ List.drop x' l = List.drop x' m)) ∧
 l.length - x' < l.length - x ∧ (Is (bools l) (bools l) ∧ Is (bools m) (bools m) ∧ IntKind.i64.wrap ((↑x : Int) + (1 : Int)) = (↑x' : Int) ∧ True) ∧ True))
 (Bool.true = Decidable.decide (l = m)))) = Goal Try.prog [] (A_wpBools l m) K_wpBools.1 K_wpBools.2 ((l, m)) := by kernel_rfl

theorem vc_wpLog (l m : List (List Int)) : (condP ((↑l.length : Int) != (↑m.length : Int)) (Bool.false = Decidable.decide (l = m))
 ((Exists fun (x : Nat) =>
 (x ≤ l.length ∧ l.length = m.length ∧ (l = m ↔ List.drop x l = List.drop x m)) ∧ (Is (intss l) (intss l) ∧ Is (intss m) (intss m) ∧ (0 : Int) = (↑x : Int) ∧ True) ∧ True) ∧
 ∀ (x : Nat),
 x ≤ l.length ∧ l.length = m.length ∧ (l = m ↔ List.drop x l = List.drop x m) →
 condP (Decidable.decide ((↑x : Int) < (↑l.length : Int)))
 (((0 : Int) ≤ (↑x : Int) ∧ (↑x : Int) < (↑l.length : Int)) ∧
 x < l.length ∧
 ((0 : Int) ≤ (↑x : Int) ∧ (↑x : Int) < (↑m.length : Int)) ∧
 x < m.length ∧
 Exists fun (x_1 : List Int × List Int) =>
 (Is (ints (l.getD x [])) (ints x_1.fst) ∧ Is (ints (m.getD x [])) (ints x_1.snd) ∧ True) ∧
 Sz x_1.fst ∧
 condP (!Decidable.decide (x_1.fst = x_1.snd)) (Bool.false = Decidable.decide (l = m))
 (Exists fun (x' : Nat) =>
 (x' ≤ l.length ∧ l.length = m.length ∧ (l = m ↔ List.drop x' l = List.drop x' m)) ∧
 l.length - x' < l.length - x ∧
 (Is (intss l) (intss l) ∧ Is (intss m) (intss m) ∧ IntKind.i64.wrap ((↑x : Int) + (1 : Int)) = (↑x' : Int) ∧ True) ∧ True))
 (Bool.true = Decidable.decide (l = m)))) = Goal Try.prog [K_wpNums] (A_wpLog l m) K_wpLog.1 K_wpLog.2 ((l, m)) := by kernel_rfl

theorem vc_yHuntRun (b : List Int) : (condP (Decidable.decide ((↑b.length : Int) > (1048576 : Int))) (Bool.true = Bool.true)
 (Exists fun (x : List Int) =>
 (Sz x ∧ Byt x) ∧
 ((Is (byts b) (byts x) ∧ True) ∧ True) ∧
 ∀ (y : Pl.Cnf × Int),
 Sm y.fst →
 Exists fun (x : Pl.Cnf × Int) =>
 ((y.fst.fst = x.fst.fst ∧ Is (intss y.fst.snd) (intss x.fst.snd) ∧ True) ∧ y.snd = x.snd ∧ True) ∧
 SzC x.fst ∧
 Exists fun (x_1 : Pl.Cnf × Int) =>
 ((y.fst.fst = x_1.fst.fst ∧ Is (intss y.fst.snd) (intss x_1.fst.snd) ∧ True) ∧ y.snd = x_1.snd ∧ True) ∧
 SzC x_1.fst ∧
 condP (!(Pl.huntRun x.fst x.snd).snd.snd == (Pl.huntRun x_1.fst x_1.snd).snd.snd)
 (condP ((Pl.huntRun x.fst x.snd).snd.snd == (Pl.huntRun x_1.fst x_1.snd).snd.snd)
 (Exists fun (x_2 : List Bool × List Bool) =>
 (Is (bools (Pl.huntRun x.fst x.snd).fst) (bools x_2.fst) ∧ Is (bools (Pl.huntRun x_1.fst x_1.snd).fst) (bools x_2.snd) ∧ True) ∧
 Sz x_2.fst ∧
 condP (Decidable.decide (x_2.fst = x_2.snd))
 (Exists fun (x_3 : List (List Int) × List (List Int)) =>
 (Is (intss (Pl.huntRun x.fst x.snd).snd.fst) (intss x_3.fst) ∧ Is (intss (Pl.huntRun x_1.fst x_1.snd).snd.fst) (intss x_3.snd) ∧ True) ∧
 (Sz x_3.fst ∧ ∀ (y : List Int), y ∈ x_3.fst → Sz y) ∧ Decidable.decide (x_3.fst = x_3.snd) = Bool.true)
 (Bool.false = Bool.true))
 (Bool.false = Bool.true))
 (Exists fun (x_2 : List Bool × List Bool) =>
 (Is (bools (Pl.huntRun x.fst x.snd).fst) (bools x_2.fst) ∧ Is (bools (Pl.huntRun x_1.fst x_1.snd).fst) (bools x_2.snd) ∧ True) ∧
 Sz x_2.fst ∧
 condP (!Decidable.decide (x_2.fst = x_2.snd))
 (condP ((Pl.huntRun x.fst x.snd).snd.snd == (Pl.huntRun x_1.fst x_1.snd).snd.snd)
 (Exists fun (x_3 : List Bool × List Bool) =>
 (Is (bools (Pl.huntRun x.fst x.snd).fst) (bools x_3.fst) ∧ Is (bools (Pl.huntRun x_1.fst x_1.snd).fst) (bools x_3.snd) ∧ True) ∧
 Sz x_3.fst ∧
 condP (Decidable.decide (x_3.fst = x_3.snd))
 (Exists fun (x_4 : List (List Int) × List (List Int)) =>
 (Is (intss (Pl.huntRun x.fst x.snd).snd.fst) (intss x_4.fst) ∧ Is (intss (Pl.huntRun x_1.fst x_1.snd).snd.fst) (intss x_4.snd) ∧ True) ∧
 (Sz x_4.fst ∧ ∀ (y : List Int), y ∈ x_4.fst → Sz y) ∧ Decidable.decide (x_4.fst = x_4.snd) = Bool.true)
 (Bool.false = Bool.true))
 (Bool.false = Bool.true))
 (Exists fun (x_3 : List (List Int) × List (List Int)) =>
 (Is (intss (Pl.huntRun x.fst x.snd).snd.fst) (intss x_3.fst) ∧ Is (intss (Pl.huntRun x_1.fst x_1.snd).snd.fst) (intss x_3.snd) ∧ True) ∧
 (Sz x_3.fst ∧ ∀ (y : List Int), y ∈ x_3.fst → Sz y) ∧
 condP (!Decidable.decide (x_3.fst = x_3.snd))
 (condP ((Pl.huntRun x.fst x.snd).snd.snd == (Pl.huntRun x_1.fst x_1.snd).snd.snd)
 (Exists fun (x_4 : List Bool × List Bool) =>
 (Is (bools (Pl.huntRun x.fst x.snd).fst) (bools x_4.fst) ∧ Is (bools (Pl.huntRun x_1.fst x_1.snd).fst) (bools x_4.snd) ∧ True) ∧
 Sz x_4.fst ∧
 condP (Decidable.decide (x_4.fst = x_4.snd))
 (Exists fun (x_5 : List (List Int) × List (List Int)) =>
 (Is (intss (Pl.huntRun x.fst x.snd).snd.fst) (intss x_5.fst) ∧
 Is (intss (Pl.huntRun x_1.fst x_1.snd).snd.fst) (intss x_5.snd) ∧ True) ∧
 (Sz x_5.fst ∧ ∀ (y : List Int), y ∈ x_5.fst → Sz y) ∧ Decidable.decide (x_5.fst = x_5.snd) = Bool.true)
 (Bool.false = Bool.true))
 (Bool.false = Bool.true))
 (condP (!(Pl.huntRun x.fst x.snd).snd.snd)
 (condP ((Pl.huntRun x.fst x.snd).snd.snd == (Pl.huntRun x_1.fst x_1.snd).snd.snd)
 (Exists fun (x_4 : List Bool × List Bool) =>
 (Is (bools (Pl.huntRun x.fst x.snd).fst) (bools x_4.fst) ∧ Is (bools (Pl.huntRun x_1.fst x_1.snd).fst) (bools x_4.snd) ∧ True) ∧
 Sz x_4.fst ∧
 condP (Decidable.decide (x_4.fst = x_4.snd))
 (Exists fun (x_5 : List (List Int) × List (List Int)) =>
 (Is (intss (Pl.huntRun x.fst x.snd).snd.fst) (intss x_5.fst) ∧
 Is (intss (Pl.huntRun x_1.fst x_1.snd).snd.fst) (intss x_5.snd) ∧ True) ∧
 (Sz x_5.fst ∧ ∀ (y : List Int), y ∈ x_5.fst → Sz y) ∧ Decidable.decide (x_5.fst = x_5.snd) = Bool.true)
 (Bool.false = Bool.true))
 (Bool.false = Bool.true))
 (condP ((↑(Pl.huntRun x.fst x.snd).snd.fst.length : Int) == (0 : Int))
 (Exists fun (x_4 : Pl.Cnf × List Bool) =>
 ((y.fst.fst = x_4.fst.fst ∧ Is (intss y.fst.snd) (intss x_4.fst.snd) ∧ True) ∧
 Is (bools (Pl.huntRun x.fst x.snd).fst) (bools x_4.snd) ∧ True) ∧
 (SzC x_4.fst ∧ Sz x_4.snd) ∧ Pl.cnfIs x_4.fst x_4.snd = Bool.true)
 (condP ((↑(Pl.huntRun x.fst x.snd).fst.length : Int) == (0 : Int))
 (Exists fun (x_4 : Pl.Cnf × List (List Int)) =>
 ((y.fst.fst = x_4.fst.fst ∧ Is (intss y.fst.snd) (intss x_4.fst.snd) ∧ True) ∧
 Is (intss (Pl.huntRun x.fst x.snd).snd.fst) (intss x_4.snd) ∧ True) ∧
 (SzC x_4.fst ∧ Sz x_4.snd ∧ ∀ (y : List Int), y ∈ x_4.snd → SzH y) ∧
 condP (Pl.logOk x_4.fst x_4.snd)
 (Exists fun (x_5 : List (List Int)) =>
 (Is (intss (Pl.huntRun x.fst x.snd).snd.fst) (intss x_5) ∧ True) ∧
 Sz x_5 ∧
 condP (Pl.logEnds x_5) (Decidable.decide ((↑(Pl.huntRun x.fst x.snd).snd.fst.length : Int) ≤ y.snd) = Bool.true)
 (Bool.false = Bool.true))
 (Bool.false = Bool.true))
 (Bool.false = Bool.true)))))))) = Goal Try.prog [K_DrawHuntRun, K_iHuntRun, K_sHuntRun, K_wpBools, K_wpLog, K_iCnfIs, K_iLogOk, K_iLogEnds] ([]) K_yHuntRun.1 K_yHuntRun.2 (b) := by kernel_rfl

theorem vc_yHuntBent (b : List Int) : (condP (Decidable.decide ((↑b.length : Int) > (1048576 : Int))) (Bool.true = Bool.true)
 (Exists fun (x : List Int) =>
 (Sz x ∧ Byt x) ∧
 ((Is (byts b) (byts x) ∧ True) ∧ True) ∧
 ∀ (y : Pl.Cnf × Int),
 Sm y.fst →
 Exists fun (x : Pl.Cnf) =>
 ((y.fst.fst = x.fst ∧ Is (intss y.fst.snd) (intss x.snd) ∧ True) ∧ True) ∧
 SzC x ∧
 condP (Pl.cnfOk x)
 (condP (Decidable.decide (y.snd ≥ (1 : Int)))
 (Exists fun (x : Pl.Cnf × Int) =>
 ((y.fst.fst = x.fst.fst ∧ Is (intss y.fst.snd) (intss x.fst.snd) ∧ True) ∧ y.snd = x.snd ∧ True) ∧
 SzC x.fst ∧
 Exists fun (x_1 : Pl.Cnf × Int) =>
 ((y.fst.fst = x_1.fst.fst ∧ Is (intss y.fst.snd) (intss x_1.fst.snd) ∧ True) ∧ y.snd = x_1.snd ∧ True) ∧
 SzC x_1.fst ∧
 condP (!(Pl.huntRun x.fst x.snd).snd.snd == (Pl.huntRun x_1.fst x_1.snd).snd.snd) (Bool.false = Bool.true)
 (condP (Decidable.decide (y.snd ≤ (130 : Int))) (Bool.true = Bool.true)
 (condP (!(Pl.huntRun x.fst x.snd).snd.snd)
 (condP ((↑(Pl.huntRun x.fst x.snd).fst.length : Int) == (0 : Int)) (((↑(Pl.huntRun x.fst x.snd).snd.fst.length : Int) == (0 : Int)) = Bool.true)
 (Bool.false = Bool.true))
 (Bool.false = Bool.true))))
 (Exists fun (x : Pl.Cnf × Int) =>
 ((y.fst.fst = x.fst.fst ∧ Is (intss y.fst.snd) (intss x.fst.snd) ∧ True) ∧ y.snd = x.snd ∧ True) ∧
 SzC x.fst ∧
 Exists fun (x_1 : Pl.Cnf × Int) =>
 ((y.fst.fst = x_1.fst.fst ∧ Is (intss y.fst.snd) (intss x_1.fst.snd) ∧ True) ∧ y.snd = x_1.snd ∧ True) ∧
 SzC x_1.fst ∧
 condP (!(Pl.huntRun x.fst x.snd).snd.snd == (Pl.huntRun x_1.fst x_1.snd).snd.snd) (Bool.false = Bool.true)
 (condP (!(Pl.huntRun x.fst x.snd).snd.snd)
 (condP ((↑(Pl.huntRun x.fst x.snd).fst.length : Int) == (0 : Int)) (((↑(Pl.huntRun x.fst x.snd).snd.fst.length : Int) == (0 : Int)) = Bool.true)
 (Bool.false = Bool.true))
 (Bool.false = Bool.true))))
 (Exists fun (x : Pl.Cnf × Int) =>
 ((y.fst.fst = x.fst.fst ∧ Is (intss y.fst.snd) (intss x.fst.snd) ∧ True) ∧ y.snd = x.snd ∧ True) ∧
 SzC x.fst ∧
 Exists fun (x_1 : Pl.Cnf × Int) =>
 ((y.fst.fst = x_1.fst.fst ∧ Is (intss y.fst.snd) (intss x_1.fst.snd) ∧ True) ∧ y.snd = x_1.snd ∧ True) ∧
 SzC x_1.fst ∧
 condP (!(Pl.huntRun x.fst x.snd).snd.snd == (Pl.huntRun x_1.fst x_1.snd).snd.snd) (Bool.false = Bool.true)
 (condP (!(Pl.huntRun x.fst x.snd).snd.snd)
 (condP ((↑(Pl.huntRun x.fst x.snd).fst.length : Int) == (0 : Int)) (((↑(Pl.huntRun x.fst x.snd).snd.fst.length : Int) == (0 : Int)) = Bool.true)
 (Bool.false = Bool.true))
 (Bool.false = Bool.true))))) = Goal Try.prog [K_DrawHuntRun, K_iCnfOk, K_iHuntRun, K_sHuntRun] ([]) K_yHuntBent.1 K_yHuntBent.2 (b) := by kernel_rfl

theorem vc_yHuntFuel (b : List Int) : (condP (Decidable.decide ((↑b.length : Int) > (1048576 : Int))) (Bool.true = Bool.true)
 (Exists fun (x : List Int) =>
 (Sz x ∧ Byt x) ∧
 ((Is (byts b) (byts x) ∧ True) ∧ True) ∧
 ∀ (y : Pl.Cnf × Int),
 Sm y.fst →
 Exists fun (x : Pl.Cnf × Int) =>
 ((y.fst.fst = x.fst.fst ∧ Is (intss y.fst.snd) (intss x.fst.snd) ∧ True) ∧ y.snd = x.snd ∧ True) ∧
 SzC x.fst ∧
 Exists fun (x_1 : Pl.Cnf × Int) =>
 ((y.fst.fst = x_1.fst.fst ∧ Is (intss y.fst.snd) (intss x_1.fst.snd) ∧ True) ∧ y.snd = x_1.snd ∧ True) ∧
 SzC x_1.fst ∧
 condP (!(Pl.huntRun x.fst x.snd).snd.snd == (Pl.huntRun x_1.fst x_1.snd).snd.snd) (((Pl.huntRun x.fst x.snd).snd.snd == (Pl.huntRun x_1.fst x_1.snd).snd.snd) = Bool.true)
 (condP (!(Pl.huntRun x.fst x.snd).snd.snd) (((Pl.huntRun x.fst x.snd).snd.snd == (Pl.huntRun x_1.fst x_1.snd).snd.snd) = Bool.true)
 (Exists fun (x_2 : Pl.Cnf × Int) =>
 ((y.fst.fst = x_2.fst.fst ∧ Is (intss y.fst.snd) (intss x_2.fst.snd) ∧ True) ∧ (130 : Int) = x_2.snd ∧ True) ∧
 SzC x_2.fst ∧
 condP (Pl.huntRun x_2.fst x_2.snd).snd.snd
 (Exists fun (x_3 : List Bool × List Bool) =>
 (Is (bools (Pl.huntRun x_2.fst x_2.snd).fst) (bools x_3.fst) ∧ Is (bools (Pl.huntRun x.fst x.snd).fst) (bools x_3.snd) ∧ True) ∧
 Sz x_3.fst ∧
 condP (Decidable.decide (x_3.fst = x_3.snd))
 (Exists fun (x_4 : List (List Int) × List (List Int)) =>
 (Is (intss (Pl.huntRun x_2.fst x_2.snd).snd.fst) (intss x_4.fst) ∧ Is (intss (Pl.huntRun x.fst x.snd).snd.fst) (intss x_4.snd) ∧ True) ∧
 (Sz x_4.fst ∧ ∀ (y : List Int), y ∈ x_4.fst → Sz y) ∧ Decidable.decide (x_4.fst = x_4.snd) = Bool.true)
 (Bool.false = Bool.true))
 (Bool.false = Bool.true))))) = Goal Try.prog [K_DrawHuntRun, K_iHuntRun, K_sHuntRun, K_wpBools, K_wpLog] ([]) K_yHuntFuel.1 K_yHuntFuel.2 (b) := by kernel_rfl

theorem vc_yHuntOnly (b : List Int) : (condP (Decidable.decide ((↑b.length : Int) > (1048576 : Int))) (Bool.true = Bool.true)
 (Exists fun (x : List Int) =>
 (Sz x ∧ Byt x) ∧
 ((Is (byts b) (byts x) ∧ True) ∧ True) ∧
 ∀ (y : Pl.Cnf × Int),
 Sm y.fst →
 Exists fun (x : Pl.Cnf × Int) =>
 ((y.fst.fst = x.fst.fst ∧ Is (intss y.fst.snd) (intss x.fst.snd) ∧ True) ∧ y.snd = x.snd ∧ True) ∧
 SzC x.fst ∧
 Exists fun (x_1 : Pl.Cnf × Int) =>
 ((y.fst.fst = x_1.fst.fst ∧ Is (intss y.fst.snd) (intss x_1.fst.snd) ∧ True) ∧ y.snd = x_1.snd ∧ True) ∧
 SzC x_1.fst ∧
 condP (!(Pl.huntRun x.fst x.snd).snd.snd == (Pl.huntRun x_1.fst x_1.snd).snd.snd) (((Pl.huntRun x.fst x.snd).snd.snd == (Pl.huntRun x_1.fst x_1.snd).snd.snd) = Bool.true)
 (condP (!(Pl.huntRun x.fst x.snd).snd.snd) (((Pl.huntRun x.fst x.snd).snd.snd == (Pl.huntRun x_1.fst x_1.snd).snd.snd) = Bool.true)
 (condP (Decidable.decide ((↑(Pl.huntRun x.fst x.snd).snd.fst.length : Int) > (0 : Int)))
 (((Pl.huntRun x.fst x.snd).snd.snd == (Pl.huntRun x_1.fst x_1.snd).snd.snd) = Bool.true)
 ((((0 : Nat) = (0 : Nat) ∨ (0 : Nat) < y.fst.snd.length) ∧
 ((0 : Nat) + y.fst.snd.length) * (24 : Nat) ≤ (70368744177664 : Nat) ∧
 (Exists fun (x_2 : Pl.Cnf × List Bool × Nat) =>
 (Sm x_2.fst ∧ Pl.cnfIs x_2.fst x_2.snd.fst = Bool.true ∧ x_2.snd.fst.length ≤ (60 : Nat) ∧ x_2.snd.snd ≤ x_2.snd.fst.length) ∧
 ((0 : Nat) = (0 : Nat) ∧
 Is (bools (Pl.huntRun x.fst x.snd).fst) (bools x_2.snd.fst) ∧ (0 : Nat) = (0 : Nat) ∧ (0 : Int) = (↑x_2.snd.snd : Int) ∧ True) ∧
 (y.fst.fst = x_2.fst.fst ∧ Is (intss y.fst.snd) (intss x_2.fst.snd) ∧ True) ∧
 (y.fst.fst = x_2.fst.fst ∧
 ((0 : Nat) = (0 : Nat) ∧ (0 : Nat) + y.fst.snd.length = (x_2.fst.snd ++ List.take x_2.snd.snd (Pl.pins x_2.snd.fst)).length) ∧ True) ∧
 IsO (AObj.arr ((0 : Nat) + y.fst.snd.length) (1 : Nat) (joinC (0 : Nat) (rowsCell []) (cII y.fst.snd)))
 (arII (x_2.fst.snd ++ List.take x_2.snd.snd (Pl.pins x_2.snd.fst))) ∧
 True) ∧
 ∀ (x : Pl.Cnf × List Bool × Nat),
 Sm x.fst ∧ Pl.cnfIs x.fst x.snd.fst = Bool.true ∧ x.snd.fst.length ≤ (60 : Nat) ∧ x.snd.snd ≤ x.snd.fst.length →
 condP (Decidable.decide ((↑x.snd.snd : Int) < (↑x.snd.fst.length : Int)))
 (((0 : Int) ≤ (↑x.snd.snd : Int) ∧ (↑x.snd.snd : Int) < (↑x.snd.fst.length : Int)) ∧
 x.snd.snd < x.snd.fst.length ∧
 condP (!x.snd.fst.getD x.snd.snd Bool.false)
 ((0 : Nat) + (x.fst.snd ++ List.take x.snd.snd (Pl.pins x.snd.fst)).length ≤ (x.fst.snd ++ List.take x.snd.snd (Pl.pins x.snd.fst)).length ∧
 ((x.fst.snd ++ List.take x.snd.snd (Pl.pins x.snd.fst)).length + (1 : Nat)) * (24 : Nat) ≤ (70368744177664 : Nat) ∧
 Exists fun (x' : Pl.Cnf × List Bool × Nat) =>
 (Sm x'.fst ∧ Pl.cnfIs x'.fst x'.snd.fst = Bool.true ∧ x'.snd.fst.length ≤ (60 : Nat) ∧ x'.snd.snd ≤ x'.snd.fst.length) ∧
 x'.snd.fst.length - x'.snd.snd < x.snd.fst.length - x.snd.snd ∧
 ((0 : Nat) = (0 : Nat) ∧
 Is (bools x.snd.fst) (bools x'.snd.fst) ∧
 (0 : Nat) = (0 : Nat) ∧ IntKind.i64.wrap ((↑x.snd.snd : Int) + (1 : Int)) = (↑x'.snd.snd : Int) ∧ True) ∧
 (x.fst.fst = x'.fst.fst ∧ Is (intss x.fst.snd) (intss x'.fst.snd) ∧ True) ∧
 (x.fst.fst = x'.fst.fst ∧
 ((0 : Nat) = (0 : Nat) ∧
 (x.fst.snd ++ List.take x.snd.snd (Pl.pins x.snd.fst)).length + (1 : Nat) =
 (x'.fst.snd ++ List.take x'.snd.snd (Pl.pins x'.snd.fst)).length) ∧
 True) ∧
 IsO
 (AObj.arr ((x.fst.snd ++ List.take x.snd.snd (Pl.pins x.snd.fst)).length + (1 : Nat)) (1 : Nat)
 (joinC (x.fst.snd ++ List.take x.snd.snd (Pl.pins x.snd.fst)).length
 (cII (x.fst.snd ++ List.take x.snd.snd (Pl.pins x.snd.fst)))
 (rowsCell
 [[AV.lit (1 : Nat) (1 : Nat)
 (rowsCell [[i64 (IntKind.i64.wrap ((0 : Int) - IntKind.i64.wrap ((↑x.snd.snd : Int) + (1 : Int))))]])]])))
 (arII (x'.fst.snd ++ List.take x'.snd.snd (Pl.pins x'.snd.fst))) ∧
 True)
 ((0 : Nat) + (x.fst.snd ++ List.take x.snd.snd (Pl.pins x.snd.fst)).length ≤ (x.fst.snd ++ List.take x.snd.snd (Pl.pins x.snd.fst)).length ∧
 ((x.fst.snd ++ List.take x.snd.snd (Pl.pins x.snd.fst)).length + (1 : Nat)) * (24 : Nat) ≤ (70368744177664 : Nat) ∧
 Exists fun (x' : Pl.Cnf × List Bool × Nat) =>
 (Sm x'.fst ∧ Pl.cnfIs x'.fst x'.snd.fst = Bool.true ∧ x'.snd.fst.length ≤ (60 : Nat) ∧ x'.snd.snd ≤ x'.snd.fst.length) ∧
 x'.snd.fst.length - x'.snd.snd < x.snd.fst.length - x.snd.snd ∧
 ((0 : Nat) = (0 : Nat) ∧
 Is (bools x.snd.fst) (bools x'.snd.fst) ∧
 (0 : Nat) = (0 : Nat) ∧ IntKind.i64.wrap ((↑x.snd.snd : Int) + (1 : Int)) = (↑x'.snd.snd : Int) ∧ True) ∧
 (x.fst.fst = x'.fst.fst ∧ Is (intss x.fst.snd) (intss x'.fst.snd) ∧ True) ∧
 (x.fst.fst = x'.fst.fst ∧
 ((0 : Nat) = (0 : Nat) ∧
 (x.fst.snd ++ List.take x.snd.snd (Pl.pins x.snd.fst)).length + (1 : Nat) =
 (x'.fst.snd ++ List.take x'.snd.snd (Pl.pins x'.snd.fst)).length) ∧
 True) ∧
 IsO
 (AObj.arr ((x.fst.snd ++ List.take x.snd.snd (Pl.pins x.snd.fst)).length + (1 : Nat)) (1 : Nat)
 (joinC (x.fst.snd ++ List.take x.snd.snd (Pl.pins x.snd.fst)).length
 (cII (x.fst.snd ++ List.take x.snd.snd (Pl.pins x.snd.fst)))
 (rowsCell
 [[AV.lit (1 : Nat) (1 : Nat) (rowsCell [[i64 (IntKind.i64.wrap ((↑x.snd.snd : Int) + (1 : Int)))]])]])))
 (arII (x'.fst.snd ++ List.take x'.snd.snd (Pl.pins x'.snd.fst))) ∧
 True))
 ((0 : Nat) + (x.fst.snd ++ List.take x.snd.snd (Pl.pins x.snd.fst)).length ≤ (x.fst.snd ++ List.take x.snd.snd (Pl.pins x.snd.fst)).length ∧
 Exists fun (x_2 : Pl.Cnf × Int) =>
 ((x.fst.fst = x_2.fst.fst ∧ Is (intss (x.fst.snd ++ List.take x.snd.snd (Pl.pins x.snd.fst))) (intss x_2.fst.snd) ∧ True) ∧
 (130 : Int) = x_2.snd ∧ True) ∧
 SzC x_2.fst ∧
 condP (Pl.huntRun x_2.fst x_2.snd).snd.snd
 (Exists fun (x_3 : List Bool × List Bool) =>
 (Is (bools (Pl.huntRun x_2.fst x_2.snd).fst) (bools x_3.fst) ∧ Is (bools x.snd.fst) (bools x_3.snd) ∧ True) ∧
 Sz x_3.fst ∧ Decidable.decide (x_3.fst = x_3.snd) = Bool.true)
 (Bool.false = Bool.true))) ∧
 ((0 : Nat) = (0 : Nat) ∨ (0 : Nat) < y.fst.snd.length) ∧
 ((0 : Nat) + y.fst.snd.length) * (24 : Nat) ≤ (70368744177664 : Nat) ∧
 (Exists fun (x_2 : Pl.Cnf × List Bool × Nat) =>
 (Sm x_2.fst ∧ Pl.cnfIs x_2.fst x_2.snd.fst = Bool.true ∧ x_2.snd.fst.length ≤ (60 : Nat) ∧ x_2.snd.snd ≤ x_2.snd.fst.length) ∧
 ((0 : Nat) = (0 : Nat) ∧
 Is (bools (Pl.huntRun x.fst x.snd).fst) (bools x_2.snd.fst) ∧ (0 : Nat) = (0 : Nat) ∧ (0 : Int) = (↑x_2.snd.snd : Int) ∧ True) ∧
 (y.fst.fst = x_2.fst.fst ∧ Is (intss y.fst.snd) (intss x_2.fst.snd) ∧ True) ∧
 (y.fst.fst = x_2.fst.fst ∧
 ((0 : Nat) = (0 : Nat) ∧ (0 : Nat) + y.fst.snd.length = (x_2.fst.snd ++ List.take x_2.snd.snd (Pl.pins x_2.snd.fst)).length) ∧ True) ∧
 IsO (AObj.arr ((0 : Nat) + y.fst.snd.length) (1 : Nat) (joinC (0 : Nat) (rowsCell []) (cII y.fst.snd)))
 (arII (x_2.fst.snd ++ List.take x_2.snd.snd (Pl.pins x_2.snd.fst))) ∧
 True) ∧
 ∀ (x : Pl.Cnf × List Bool × Nat),
 Sm x.fst ∧ Pl.cnfIs x.fst x.snd.fst = Bool.true ∧ x.snd.fst.length ≤ (60 : Nat) ∧ x.snd.snd ≤ x.snd.fst.length →
 condP (Decidable.decide ((↑x.snd.snd : Int) < (↑x.snd.fst.length : Int)))
 (((0 : Int) ≤ (↑x.snd.snd : Int) ∧ (↑x.snd.snd : Int) < (↑x.snd.fst.length : Int)) ∧
 x.snd.snd < x.snd.fst.length ∧
 condP (!x.snd.fst.getD x.snd.snd Bool.false)
 ((0 : Nat) + (x.fst.snd ++ List.take x.snd.snd (Pl.pins x.snd.fst)).length ≤ (x.fst.snd ++ List.take x.snd.snd (Pl.pins x.snd.fst)).length ∧
 ((x.fst.snd ++ List.take x.snd.snd (Pl.pins x.snd.fst)).length + (1 : Nat)) * (24 : Nat) ≤ (70368744177664 : Nat) ∧
 Exists fun (x' : Pl.Cnf × List Bool × Nat) =>
 (Sm x'.fst ∧ Pl.cnfIs x'.fst x'.snd.fst = Bool.true ∧ x'.snd.fst.length ≤ (60 : Nat) ∧ x'.snd.snd ≤ x'.snd.fst.length) ∧
 x'.snd.fst.length - x'.snd.snd < x.snd.fst.length - x.snd.snd ∧
 ((0 : Nat) = (0 : Nat) ∧
 Is (bools x.snd.fst) (bools x'.snd.fst) ∧
 (0 : Nat) = (0 : Nat) ∧ IntKind.i64.wrap ((↑x.snd.snd : Int) + (1 : Int)) = (↑x'.snd.snd : Int) ∧ True) ∧
 (x.fst.fst = x'.fst.fst ∧ Is (intss x.fst.snd) (intss x'.fst.snd) ∧ True) ∧
 (x.fst.fst = x'.fst.fst ∧
 ((0 : Nat) = (0 : Nat) ∧
 (x.fst.snd ++ List.take x.snd.snd (Pl.pins x.snd.fst)).length + (1 : Nat) =
 (x'.fst.snd ++ List.take x'.snd.snd (Pl.pins x'.snd.fst)).length) ∧
 True) ∧
 IsO
 (AObj.arr ((x.fst.snd ++ List.take x.snd.snd (Pl.pins x.snd.fst)).length + (1 : Nat)) (1 : Nat)
 (joinC (x.fst.snd ++ List.take x.snd.snd (Pl.pins x.snd.fst)).length
 (cII (x.fst.snd ++ List.take x.snd.snd (Pl.pins x.snd.fst)))
 (rowsCell
 [[AV.lit (1 : Nat) (1 : Nat)
 (rowsCell [[i64 (IntKind.i64.wrap ((0 : Int) - IntKind.i64.wrap ((↑x.snd.snd : Int) + (1 : Int))))]])]])))
 (arII (x'.fst.snd ++ List.take x'.snd.snd (Pl.pins x'.snd.fst))) ∧
 True)
 ((0 : Nat) + (x.fst.snd ++ List.take x.snd.snd (Pl.pins x.snd.fst)).length ≤ (x.fst.snd ++ List.take x.snd.snd (Pl.pins x.snd.fst)).length ∧
 ((x.fst.snd ++ List.take x.snd.snd (Pl.pins x.snd.fst)).length + (1 : Nat)) * (24 : Nat) ≤ (70368744177664 : Nat) ∧
 Exists fun (x' : Pl.Cnf × List Bool × Nat) =>
 (Sm x'.fst ∧ Pl.cnfIs x'.fst x'.snd.fst = Bool.true ∧ x'.snd.fst.length ≤ (60 : Nat) ∧ x'.snd.snd ≤ x'.snd.fst.length) ∧
 x'.snd.fst.length - x'.snd.snd < x.snd.fst.length - x.snd.snd ∧
 ((0 : Nat) = (0 : Nat) ∧
 Is (bools x.snd.fst) (bools x'.snd.fst) ∧
 (0 : Nat) = (0 : Nat) ∧ IntKind.i64.wrap ((↑x.snd.snd : Int) + (1 : Int)) = (↑x'.snd.snd : Int) ∧ True) ∧
 (x.fst.fst = x'.fst.fst ∧ Is (intss x.fst.snd) (intss x'.fst.snd) ∧ True) ∧
 (x.fst.fst = x'.fst.fst ∧
 ((0 : Nat) = (0 : Nat) ∧
 (x.fst.snd ++ List.take x.snd.snd (Pl.pins x.snd.fst)).length + (1 : Nat) =
 (x'.fst.snd ++ List.take x'.snd.snd (Pl.pins x'.snd.fst)).length) ∧
 True) ∧
 IsO
 (AObj.arr ((x.fst.snd ++ List.take x.snd.snd (Pl.pins x.snd.fst)).length + (1 : Nat)) (1 : Nat)
 (joinC (x.fst.snd ++ List.take x.snd.snd (Pl.pins x.snd.fst)).length
 (cII (x.fst.snd ++ List.take x.snd.snd (Pl.pins x.snd.fst)))
 (rowsCell
 [[AV.lit (1 : Nat) (1 : Nat) (rowsCell [[i64 (IntKind.i64.wrap ((↑x.snd.snd : Int) + (1 : Int)))]])]])))
 (arII (x'.fst.snd ++ List.take x'.snd.snd (Pl.pins x'.snd.fst))) ∧
 True))
 ((0 : Nat) + (x.fst.snd ++ List.take x.snd.snd (Pl.pins x.snd.fst)).length ≤ (x.fst.snd ++ List.take x.snd.snd (Pl.pins x.snd.fst)).length ∧
 Exists fun (x_2 : Pl.Cnf × Int) =>
 ((x.fst.fst = x_2.fst.fst ∧ Is (intss (x.fst.snd ++ List.take x.snd.snd (Pl.pins x.snd.fst))) (intss x_2.fst.snd) ∧ True) ∧
 (130 : Int) = x_2.snd ∧ True) ∧
 SzC x_2.fst ∧
 condP (Pl.huntRun x_2.fst x_2.snd).snd.snd
 (Exists fun (x_3 : List Bool × List Bool) =>
 (Is (bools (Pl.huntRun x_2.fst x_2.snd).fst) (bools x_3.fst) ∧ Is (bools x.snd.fst) (bools x_3.snd) ∧ True) ∧
 Sz x_3.fst ∧ Decidable.decide (x_3.fst = x_3.snd) = Bool.true)
 (Bool.false = Bool.true))))))) = Goal Try.prog [K_DrawHuntRun, K_iHuntRunF, K_sHuntRun, K_wpBools] (A_yHuntOnly) K_yHuntOnly.1 K_yHuntOnly.2 (b) := by kernel_rfl

end Cg
