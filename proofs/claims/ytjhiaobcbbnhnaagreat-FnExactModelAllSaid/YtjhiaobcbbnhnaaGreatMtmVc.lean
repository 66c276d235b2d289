/-
  What is left to show of each function's code, printed by a program: Mtm. No condition.
-/
import Derived.Test.YtjhiaobcbbnhnaaGreatMtmDefs
import Derived.Test.YtjhiaobcbbnhnaaGreatProg
set_option maxRecDepth 100000
set_option linter.unusedVariables false
namespace Cg
open Go Go.Proofs
theorem vc_whole (x : Int) : (x = x ∧ (1 : Int) = Int.ofNat ((1 : Nat)) ∧ True) = Goal Tryz.prog [] ([]) K_whole.1 K_whole.2 (x) := by kernel_rfl

theorem vc_l7Look (x : Pl.Mdl × ByteArray × List Pl.Rt) : ((Exists fun (x_1 : Nat) =>
 (x_1 ≤ List.length x.fst ∧ Pl.look x.fst x.snd.fst x.snd.snd = Pl.look (List.drop x_1 x.fst) x.snd.fst x.snd.snd) ∧
 (x.snd.fst = x.snd.fst ∧ Is (rats x.snd.snd) (rats x.snd.snd) ∧ (0 : Nat) = (0 : Nat) ∧ (0 : Nat) = (0 : Nat) ∧ (0 : Int) = (↑x_1 : Int) ∧ True) ∧
 (Is (mrows x.fst) (mrows x.fst) ∧ True) ∧ ((0 : Int) = (0 : Int) ∧ (0 : Int) = (0 : Int) ∧ True) ∧ True) ∧
 ∀ (x_1 : Nat),
 x_1 ≤ List.length x.fst ∧ Pl.look x.fst x.snd.fst x.snd.snd = Pl.look (List.drop x_1 x.fst) x.snd.fst x.snd.snd →
 condP (Decidable.decide ((↑x_1 : Int) < (↑(List.length x.fst) : Int)))
 (((0 : Int) ≤ (↑x_1 : Int) ∧ (↑x_1 : Int) < (↑(List.length x.fst) : Int)) ∧
 x_1 < List.length x.fst ∧
 condP ((List.getD x.fst x_1 Pl.dR).fst.toList == x.snd.fst.toList)
 (((0 : Int) ≤ (↑x_1 : Int) ∧ (↑x_1 : Int) < (↑(List.length x.fst) : Int)) ∧
 x_1 < List.length x.fst ∧
 Exists fun (x_2 : List Pl.Rt × List Pl.Rt) =>
 (Is (rats (List.getD x.fst x_1 Pl.dR).snd.fst) (rats x_2.fst) ∧ Is (rats x.snd.snd) (rats x_2.snd) ∧ True) ∧
 Sz x_2.fst ∧
 condP (Decidable.decide (x_2.fst = x_2.snd))
 (((0 : Int) ≤ (↑x_1 : Int) ∧ (↑x_1 : Int) < (↑(List.length x.fst) : Int)) ∧
 x_1 < List.length x.fst ∧
 (List.getD x.fst x_1 Pl.dR).snd.snd.fst = (Pl.look x.fst x.snd.fst x.snd.snd).fst ∧
 (List.getD x.fst x_1 Pl.dR).snd.snd.snd = (Pl.look x.fst x.snd.fst x.snd.snd).snd ∧ True)
 (Exists fun (x' : Nat) =>
 (x' ≤ List.length x.fst ∧ Pl.look x.fst x.snd.fst x.snd.snd = Pl.look (List.drop x' x.fst) x.snd.fst x.snd.snd) ∧
 List.length x.fst - x' < List.length x.fst - x_1 ∧
 (x.snd.fst = x.snd.fst ∧
 Is (rats x.snd.snd) (rats x.snd.snd) ∧
 (0 : Nat) = (0 : Nat) ∧ (0 : Nat) = (0 : Nat) ∧ IntKind.i64.wrap ((↑x_1 : Int) + (1 : Int)) = (↑x' : Int) ∧ True) ∧
 (Is (mrows x.fst) (mrows x.fst) ∧ True) ∧ ((0 : Int) = (0 : Int) ∧ (0 : Int) = (0 : Int) ∧ True) ∧ True))
 (Exists fun (x' : Nat) =>
 (x' ≤ List.length x.fst ∧ Pl.look x.fst x.snd.fst x.snd.snd = Pl.look (List.drop x' x.fst) x.snd.fst x.snd.snd) ∧
 List.length x.fst - x' < List.length x.fst - x_1 ∧
 (x.snd.fst = x.snd.fst ∧
 Is (rats x.snd.snd) (rats x.snd.snd) ∧ (0 : Nat) = (0 : Nat) ∧ (0 : Nat) = (0 : Nat) ∧ IntKind.i64.wrap ((↑x_1 : Int) + (1 : Int)) = (↑x' : Int) ∧ True) ∧
 (Is (mrows x.fst) (mrows x.fst) ∧ True) ∧ ((0 : Int) = (0 : Int) ∧ (0 : Int) = (0 : Int) ∧ True) ∧ True))
 ((0 : Int) = (Pl.look x.fst x.snd.fst x.snd.snd).fst ∧ (1 : Int) = (Pl.look x.fst x.snd.fst x.snd.snd).snd ∧ True)) = Goal Tryz.prog [K_l7Rats] (A_l7Look x.1 x.2.1 x.2.2) K_l7Look.1 K_l7Look.2 (x) := by kernel_rfl

theorem vc_l7Term (n : Nat) (x : Pl.Mdl × Pl.TP) : ((Exists fun (x_1 : Nat) =>
 x_1 ≤ x.snd.snd.length ∧
 ((0 : Nat) = (0 : Nat) ∧
 (0 : Nat) = (0 : Nat) ∧
 (0 : Nat) = (0 : Nat) ∧ ((0 : Nat) = (0 : Nat) ∧ (0 : Nat) = (0 : Nat) ∧ (Pl.valL x.fst (List.take x_1 x.snd.snd)).length = (0 : Nat)) ∧ (0 : Int) = (↑x_1 : Int) ∧ True) ∧
 (Is (mrows x.fst) (mrows x.fst) ∧ True) ∧
 (x.snd.fst = x.snd.fst ∧ Is (terms x.snd.snd) (terms x.snd.snd) ∧ True) ∧
 ((0 : Int) = (0 : Int) ∧ (0 : Int) = (0 : Int) ∧ True) ∧ (Pl.valL x.fst (List.take x_1 x.snd.snd)).length = (0 : Nat) ∧ True) ∧
 ∀ (x_1 : Nat),
 x_1 ≤ x.snd.snd.length →
 condP (Decidable.decide ((↑x_1 : Int) < (↑x.snd.snd.length : Int)))
 (((0 : Int) ≤ (↑x_1 : Int) ∧ (↑x_1 : Int) < (↑x.snd.snd.length : Int)) ∧
 x_1 < x.snd.snd.length ∧
 Exists fun (x_2 : Pl.Mdl × Pl.TP) =>
 ((Is (mrows x.fst) (mrows x_2.fst) ∧ True) ∧
 (Pl.Tree.val (x.snd.snd.getD x_1 Pl.dT) = x_2.snd.fst ∧ Is (kidsT (x.snd.snd.getD x_1 Pl.dT)) (terms x_2.snd.snd) ∧ True) ∧ True) ∧
 ((SmM x_2.fst ∧ SmT (Pl.Tree.mk x_2.snd.fst x_2.snd.snd)) ∧ Pl.manyL x_2.snd.snd < n) ∧
 (0 : Nat) + (Pl.valL x.fst (List.take x_1 x.snd.snd)).length ≤ (Pl.valL x.fst (List.take x_1 x.snd.snd)).length ∧
 ((Pl.valL x.fst (List.take x_1 x.snd.snd)).length + (1 : Nat)) * (16 : Nat) ≤ (70368744177664 : Nat) ∧
 Exists fun (x' : Nat) =>
 x' ≤ x.snd.snd.length ∧
 x.snd.snd.length - x' < x.snd.snd.length - x_1 ∧
 ((0 : Nat) = (0 : Nat) ∧
 (0 : Nat) = (0 : Nat) ∧
 (0 : Nat) = (0 : Nat) ∧
 ((0 : Nat) = (0 : Nat) ∧ (Pl.valL x.fst (List.take x_1 x.snd.snd)).length + (1 : Nat) = (Pl.valL x.fst (List.take x' x.snd.snd)).length) ∧
 IntKind.i64.wrap ((↑x_1 : Int) + (1 : Int)) = (↑x' : Int) ∧ True) ∧
 (Is (mrows x.fst) (mrows x.fst) ∧ True) ∧
 (x.snd.fst = x.snd.fst ∧ Is (terms x.snd.snd) (terms x.snd.snd) ∧ True) ∧
 ((0 : Int) = (0 : Int) ∧ (0 : Int) = (0 : Int) ∧ True) ∧
 IsO
 (AObj.arr ((Pl.valL x.fst (List.take x_1 x.snd.snd)).length + (1 : Nat)) (2 : Nat)
 (joinC (Pl.valL x.fst (List.take x_1 x.snd.snd)).length (cQ (Pl.valL x.fst (List.take x_1 x.snd.snd)))
 (rowsCell [[i64 (Pl.valT x_2.fst (Pl.Tree.mk x_2.snd.fst x_2.snd.snd)).fst, i64 (Pl.valT x_2.fst (Pl.Tree.mk x_2.snd.fst x_2.snd.snd)).snd]])))
 (arQ (Pl.valL x.fst (List.take x' x.snd.snd))) ∧
 True)
 ((0 : Nat) + (Pl.valL x.fst (List.take x_1 x.snd.snd)).length ≤ (Pl.valL x.fst (List.take x_1 x.snd.snd)).length ∧
 Exists fun (x_2 : Pl.Mdl × ByteArray × List Pl.Rt) =>
 ((Is (mrows x.fst) (mrows x_2.fst) ∧ True) ∧ x.snd.fst = x_2.snd.fst ∧ Is (rats (Pl.valL x.fst (List.take x_1 x.snd.snd))) (rats x_2.snd.snd) ∧ True) ∧
 SmM x_2.fst ∧
 (Pl.look x_2.fst x_2.snd.fst x_2.snd.snd).fst = (Pl.valT x.fst (Pl.Tree.mk x.snd.fst x.snd.snd)).fst ∧
 (Pl.look x_2.fst x_2.snd.fst x_2.snd.snd).snd = (Pl.valT x.fst (Pl.Tree.mk x.snd.fst x.snd.snd)).snd ∧ True)) = Goal Tryz.prog [K_l7Look, (K_l7Term n)] (A_l7Term x.1 x.2.1 x.2.2) (K_l7Term (n + 1)).1 (K_l7Term (n + 1)).2 (x) := by kernel_rfl

theorem vc_BinRow (x : Pl.Mdl × Pl.Rw) : ((Exists fun (x_1 : Nat × Nat) =>
 (x_1.fst ≤ x_1.snd ∧ x_1.snd ≤ List.length x.fst ∧ Pl.bsR x.fst x.snd = Pl.bsF (Pl.rowBelow x.fst x.snd) x_1.fst x_1.snd) ∧
 (Is (mrows x.fst) (mrows x.fst) ∧
 True ∧ (0 : Nat) = (0 : Nat) ∧ (↑(List.length x.fst) : Int) = (↑(List.length x.fst) : Int) ∧ (0 : Int) = (↑x_1.fst : Int) ∧ (↑(List.length x.fst) : Int) = (↑x_1.snd : Int) ∧ True) ∧
 (x.snd.fst = x.snd.fst ∧ Is (rats x.snd.snd.fst) (rats x.snd.snd.fst) ∧ x.snd.snd.snd.fst = x.snd.snd.snd.fst ∧ x.snd.snd.snd.snd = x.snd.snd.snd.snd ∧ True) ∧ True) ∧
 ∀ (x_1 : Nat × Nat),
 x_1.fst ≤ x_1.snd ∧ x_1.snd ≤ List.length x.fst ∧ Pl.bsR x.fst x.snd = Pl.bsF (Pl.rowBelow x.fst x.snd) x_1.fst x_1.snd →
 condP (Decidable.decide ((↑x_1.fst : Int) < (↑x_1.snd : Int)))
 ((0 : Int) ≤ (1 : Int) ∧
 ((0 : Int) ≤ IntKind.i64.wrap ((IntKind.u64.wrap (IntKind.i64.wrap ((↑x_1.fst : Int) + (↑x_1.snd : Int)))).fdiv ((2 : Int) ^ (1 : Nat))) ∧
 IntKind.i64.wrap ((IntKind.u64.wrap (IntKind.i64.wrap ((↑x_1.fst : Int) + (↑x_1.snd : Int)))).fdiv ((2 : Int) ^ (1 : Nat))) < (↑(List.length x.fst) : Int)) ∧
 (IntKind.i64.wrap ((IntKind.u64.wrap (IntKind.i64.wrap ((↑x_1.fst : Int) + (↑x_1.snd : Int)))).fdiv ((2 : Int) ^ (1 : Nat)))).toNat < List.length x.fst ∧
 Exists fun (x_2 : Pl.Rw × Pl.Rw) =>
 (((List.getD x.fst (IntKind.i64.wrap ((IntKind.u64.wrap (IntKind.i64.wrap ((↑x_1.fst : Int) + (↑x_1.snd : Int)))).fdiv ((2 : Int) ^ (1 : Nat)))).toNat Pl.dR).fst =
 x_2.fst.fst ∧
 Is
 (rats
 (List.getD x.fst (IntKind.i64.wrap ((IntKind.u64.wrap (IntKind.i64.wrap ((↑x_1.fst : Int) + (↑x_1.snd : Int)))).fdiv ((2 : Int) ^ (1 : Nat)))).toNat
 Pl.dR).snd.fst)
 (rats x_2.fst.snd.fst) ∧
 (List.getD x.fst (IntKind.i64.wrap ((IntKind.u64.wrap (IntKind.i64.wrap ((↑x_1.fst : Int) + (↑x_1.snd : Int)))).fdiv ((2 : Int) ^ (1 : Nat)))).toNat
 Pl.dR).snd.snd.fst =
 x_2.fst.snd.snd.fst ∧
 (List.getD x.fst (IntKind.i64.wrap ((IntKind.u64.wrap (IntKind.i64.wrap ((↑x_1.fst : Int) + (↑x_1.snd : Int)))).fdiv ((2 : Int) ^ (1 : Nat)))).toNat
 Pl.dR).snd.snd.snd =
 x_2.fst.snd.snd.snd ∧
 True) ∧
 (x.snd.fst = x_2.snd.fst ∧ Is (rats x.snd.snd.fst) (rats x_2.snd.snd.fst) ∧ x.snd.snd.snd.fst = x_2.snd.snd.snd.fst ∧ x.snd.snd.snd.snd = x_2.snd.snd.snd.snd ∧ True) ∧
 True) ∧
 (Sz x_2.fst.snd.fst ∧ Sz x_2.snd.snd.fst) ∧
 condP (Decidable.decide (Pl.cmpRows x_2.fst x_2.snd < (0 : Int)))
 (Exists fun (x' : Nat × Nat) =>
 (x'.fst ≤ x'.snd ∧ x'.snd ≤ List.length x.fst ∧ Pl.bsR x.fst x.snd = Pl.bsF (Pl.rowBelow x.fst x.snd) x'.fst x'.snd) ∧
 x'.snd - x'.fst < x_1.snd - x_1.fst ∧
 (Is (mrows x.fst) (mrows x.fst) ∧
 True ∧
 (0 : Nat) = (0 : Nat) ∧
 (↑(List.length x.fst) : Int) = (↑(List.length x.fst) : Int) ∧
 IntKind.i64.wrap
 (IntKind.i64.wrap ((IntKind.u64.wrap (IntKind.i64.wrap ((↑x_1.fst : Int) + (↑x_1.snd : Int)))).fdiv ((2 : Int) ^ (1 : Nat))) + (1 : Int)) =
 (↑x'.fst : Int) ∧
 (↑x_1.snd : Int) = (↑x'.snd : Int) ∧ True) ∧
 (x.snd.fst = x.snd.fst ∧ Is (rats x.snd.snd.fst) (rats x.snd.snd.fst) ∧ x.snd.snd.snd.fst = x.snd.snd.snd.fst ∧ x.snd.snd.snd.snd = x.snd.snd.snd.snd ∧ True) ∧
 True)
 (Exists fun (x' : Nat × Nat) =>
 (x'.fst ≤ x'.snd ∧ x'.snd ≤ List.length x.fst ∧ Pl.bsR x.fst x.snd = Pl.bsF (Pl.rowBelow x.fst x.snd) x'.fst x'.snd) ∧
 x'.snd - x'.fst < x_1.snd - x_1.fst ∧
 (Is (mrows x.fst) (mrows x.fst) ∧
 True ∧
 (0 : Nat) = (0 : Nat) ∧
 (↑(List.length x.fst) : Int) = (↑(List.length x.fst) : Int) ∧
 (↑x_1.fst : Int) = (↑x'.fst : Int) ∧
 IntKind.i64.wrap ((IntKind.u64.wrap (IntKind.i64.wrap ((↑x_1.fst : Int) + (↑x_1.snd : Int)))).fdiv ((2 : Int) ^ (1 : Nat))) = (↑x'.snd : Int) ∧ True) ∧
 (x.snd.fst = x.snd.fst ∧ Is (rats x.snd.snd.fst) (rats x.snd.snd.fst) ∧ x.snd.snd.snd.fst = x.snd.snd.snd.fst ∧ x.snd.snd.snd.snd = x.snd.snd.snd.snd ∧ True) ∧
 True))
 (condP (Decidable.decide ((↑x_1.fst : Int) < (↑(List.length x.fst) : Int)))
 (((0 : Int) ≤ (↑x_1.fst : Int) ∧ (↑x_1.fst : Int) < (↑(List.length x.fst) : Int)) ∧
 x_1.fst < List.length x.fst ∧
 Exists fun (x_2 : Pl.Rw × Pl.Rw) =>
 (((List.getD x.fst x_1.fst Pl.dR).fst = x_2.fst.fst ∧
 Is (rats (List.getD x.fst x_1.fst Pl.dR).snd.fst) (rats x_2.fst.snd.fst) ∧
 (List.getD x.fst x_1.fst Pl.dR).snd.snd.fst = x_2.fst.snd.snd.fst ∧ (List.getD x.fst x_1.fst Pl.dR).snd.snd.snd = x_2.fst.snd.snd.snd ∧ True) ∧
 (x.snd.fst = x_2.snd.fst ∧ Is (rats x.snd.snd.fst) (rats x_2.snd.snd.fst) ∧ x.snd.snd.snd.fst = x_2.snd.snd.snd.fst ∧ x.snd.snd.snd.snd = x_2.snd.snd.snd.snd ∧ True) ∧
 True) ∧
 (Sz x_2.fst.snd.fst ∧ Sz x_2.snd.snd.fst) ∧ (↑x_1.fst : Int) = (↑(Pl.bsR x.fst x.snd) : Int) ∧ (Pl.cmpRows x_2.fst x_2.snd == (0 : Int)) = Pl.bsHit x.fst x.snd ∧ True)
 ((↑x_1.fst : Int) = (↑(Pl.bsR x.fst x.snd) : Int) ∧ Bool.false = Pl.bsHit x.fst x.snd ∧ True))) = Goal Tryz.prog [K_compareRows] (A_BinRow x.1 x.2) K_BinRow.1 K_BinRow.2 (x) := by kernel_rfl

theorem vc_value (n : Nat) (x : Pl.Mdl × Pl.TP) : ((Exists fun (x_1 : Nat) =>
 x_1 ≤ x.snd.snd.length ∧
 ((0 : Nat) = (0 : Nat) ∧
 (0 : Nat) = (0 : Nat) ∧
 (0 : Nat) = (0 : Nat) ∧ (0 : Nat) = (0 : Nat) ∧ Is (terms x.snd.snd) (terms x.snd.snd) ∧ (↑x.snd.snd.length : Int) = (↑x.snd.snd.length : Int) ∧ (0 : Int) = (↑x_1 : Int) ∧ True) ∧
 (Is (mrows x.fst) (mrows x.fst) ∧ True) ∧
 (x.snd.fst = x.snd.fst ∧ Is (terms x.snd.snd) (terms x.snd.snd) ∧ True) ∧
 ((0 : Int) = (0 : Int) ∧ (0 : Int) = (0 : Int) ∧ True) ∧
 (x.snd.fst = x.snd.fst ∧
 ((0 : Nat) = (0 : Nat) ∧ (0 : Nat) = (0 : Nat) ∧ (Pl.valL x.fst (List.take x_1 x.snd.snd)).length = (0 : Nat)) ∧ (0 : Int) = (0 : Int) ∧ (0 : Int) = (0 : Int) ∧ True) ∧
 (Pl.valL x.fst (List.take x_1 x.snd.snd)).length = (0 : Nat) ∧ True) ∧
 ∀ (x_1 : Nat),
 x_1 ≤ x.snd.snd.length →
 condP (Decidable.decide ((↑x_1 : Int) < (↑x.snd.snd.length : Int)))
 (((0 : Int) ≤ (↑x_1 : Int) ∧ (↑x_1 : Int) < (↑x.snd.snd.length : Int)) ∧
 x_1 < x.snd.snd.length ∧
 Exists fun (x_2 : Pl.Mdl × Pl.TP) =>
 ((Is (mrows x.fst) (mrows x_2.fst) ∧ True) ∧
 (Pl.Tree.val (x.snd.snd.getD x_1 Pl.dT) = x_2.snd.fst ∧ Is (kidsT (x.snd.snd.getD x_1 Pl.dT)) (terms x_2.snd.snd) ∧ True) ∧ True) ∧
 ((Pl.mL Option.none x_2.fst = Bool.true ∧ SmM x_2.fst ∧ SmT (Pl.Tree.mk x_2.snd.fst x_2.snd.snd)) ∧ Pl.manyL x_2.snd.snd < n) ∧
 (0 : Nat) + (Pl.valL x.fst (List.take x_1 x.snd.snd)).length ≤ (Pl.valL x.fst (List.take x_1 x.snd.snd)).length ∧
 ((Pl.valL x.fst (List.take x_1 x.snd.snd)).length + (1 : Nat)) * (16 : Nat) ≤ (70368744177664 : Nat) ∧
 Exists fun (x' : Nat) =>
 x' ≤ x.snd.snd.length ∧
 x.snd.snd.length - x' < x.snd.snd.length - x_1 ∧
 ((0 : Nat) = (0 : Nat) ∧
 (0 : Nat) = (0 : Nat) ∧
 (0 : Nat) = (0 : Nat) ∧
 (0 : Nat) = (0 : Nat) ∧
 Is (terms x.snd.snd) (terms x.snd.snd) ∧
 (↑x.snd.snd.length : Int) = (↑x.snd.snd.length : Int) ∧ IntKind.i64.wrap ((↑x_1 : Int) + (1 : Int)) = (↑x' : Int) ∧ True) ∧
 (Is (mrows x.fst) (mrows x.fst) ∧ True) ∧
 (x.snd.fst = x.snd.fst ∧ Is (terms x.snd.snd) (terms x.snd.snd) ∧ True) ∧
 ((0 : Int) = (0 : Int) ∧ (0 : Int) = (0 : Int) ∧ True) ∧
 (x.snd.fst = x.snd.fst ∧
 ((0 : Nat) = (0 : Nat) ∧ (Pl.valL x.fst (List.take x_1 x.snd.snd)).length + (1 : Nat) = (Pl.valL x.fst (List.take x' x.snd.snd)).length) ∧
 (0 : Int) = (0 : Int) ∧ (0 : Int) = (0 : Int) ∧ True) ∧
 IsO
 (AObj.arr ((Pl.valL x.fst (List.take x_1 x.snd.snd)).length + (1 : Nat)) (2 : Nat)
 (joinC (Pl.valL x.fst (List.take x_1 x.snd.snd)).length (cQ (Pl.valL x.fst (List.take x_1 x.snd.snd)))
 (rowsCell [[i64 (Pl.valT x_2.fst (Pl.Tree.mk x_2.snd.fst x_2.snd.snd)).fst, i64 (Pl.valT x_2.fst (Pl.Tree.mk x_2.snd.fst x_2.snd.snd)).snd]])))
 (arQ (Pl.valL x.fst (List.take x' x.snd.snd))) ∧
 True)
 ((0 : Nat) + (Pl.valL x.fst (List.take x_1 x.snd.snd)).length ≤ (Pl.valL x.fst (List.take x_1 x.snd.snd)).length ∧
 Exists fun (x_2 : Pl.Mdl × Pl.Rw) =>
 (Is (mrows x.fst) (mrows x_2.fst) ∧
 (x.snd.fst = x_2.snd.fst ∧
 Is (rats (Pl.valL x.fst (List.take x_1 x.snd.snd))) (rats x_2.snd.snd.fst) ∧ (0 : Int) = x_2.snd.snd.snd.fst ∧ (0 : Int) = x_2.snd.snd.snd.snd ∧ True) ∧
 True ∧ True) ∧
 (SmM x_2.fst ∧ Sz x_2.snd.snd.fst) ∧
 condP (!Pl.bsHit x_2.fst x_2.snd)
 (Exists fun (x_3 : Int) =>
 ((0 : Int) = x_3 ∧ True) ∧ True ∧ x_3 = (Pl.valT x.fst (Pl.Tree.mk x.snd.fst x.snd.snd)).fst ∧ Int.ofNat ((1 : Nat)) = (Pl.valT x.fst (Pl.Tree.mk x.snd.fst x.snd.snd)).snd ∧ True)
 (((0 : Int) ≤ (↑(Pl.bsR x_2.fst x_2.snd) : Int) ∧ (↑(Pl.bsR x_2.fst x_2.snd) : Int) < (↑(List.length x.fst) : Int)) ∧
 Pl.bsR x_2.fst x_2.snd < List.length x.fst ∧
 (List.getD x.fst (Pl.bsR x_2.fst x_2.snd) Pl.dR).snd.snd.fst = (Pl.valT x.fst (Pl.Tree.mk x.snd.fst x.snd.snd)).fst ∧
 (List.getD x.fst (Pl.bsR x_2.fst x_2.snd) Pl.dR).snd.snd.snd = (Pl.valT x.fst (Pl.Tree.mk x.snd.fst x.snd.snd)).snd ∧ True))) = Goal Tryz.prog [K_whole, K_BinRow, (K_value n)] (A_value x.1 x.2.1 x.2.2) (K_value (n + 1)).1 (K_value (n + 1)).2 (x) := by kernel_rfl

end Cg
