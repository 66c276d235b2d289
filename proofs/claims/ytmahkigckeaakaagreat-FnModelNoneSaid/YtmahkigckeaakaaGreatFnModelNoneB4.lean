/-
  What the law leans on, part 4. No condition.
-/
import Derived.Test.YtmahkigckeaakaaGreatProg
import Derived.Shelf.Strings.OnBuilder
import Derived.Test.YtmahkigckeaakaaGreatFnModelNoneB1
import Derived.Test.YtmahkigckeaakaaGreatFnModelNoneB2
import Derived.Test.YtmahkigckeaakaaGreatFnModelNoneB3
/-
  What is left to show of each function's code, printed by a program: Mtm. No condition.
-/
set_option maxRecDepth 100000
set_option linter.unusedVariables false
namespace Cg
open Go Go.Proofs
theorem vc_whole (x : Int) : (x = x ∧ (1 : Int) = Int.ofNat ((1 : Nat)) ∧ True) = Goal Tryz.prog [] ([]) K_whole.1 K_whole.2 (x) := by kernel_rfl

theorem vc_l7Look (x : Pl.Mdl × ByteArray × List Pl.Rt) : ((Exists fun (x_1 : Nat) =>
 (x_1 ≤ List.length x.fst ∧ Pl.look x.fst x.snd.fst x.snd.snd = Pl.look (List.drop x_1 x.fst) x.snd.fst x.snd.snd) ∧
 (x.snd.fst = x.snd.fst ∧ Is (rats x.snd.snd) (rats x.snd.snd) ∧ (0 : Nat) = (0 : Nat) ∧ (0 : Nat) = (0 : Nat) ∧ (0 : Int) = (↑x_1 : Int) ∧ True) ∧
 (Is (mrows x.fst) (mrows x.fst) ∧ True) ∧ ((0 : Int) = (0 : Int) ∧ (0 : Int) = (0 : Int) ∧ True) ∧ True) ∧
 ∀ (x_1 : Nat),
 x_1 ≤ List.length x.fst ∧ Pl.look x.fst x.snd.fst x.snd.snd = Pl.look (List.drop x_1 x.fst) x.snd.fst x.snd.snd →
 condP (Decidable.decide ((↑x_1 : Int) < (↑(List.length x.fst) : Int)))
 (((0 : Int) ≤ (↑x_1 : Int) ∧ (↑x_1 : Int) < (↑(List.length x.fst) : Int)) ∧
 x_1 < List.length x.fst ∧
 condP ((List.getD x.fst x_1 Pl.dR).fst.toList == x.snd.fst.toList)
 (((0 : Int) ≤ (↑x_1 : Int) ∧ (↑x_1 : Int) < (↑(List.length x.fst) : Int)) ∧
 x_1 < List.length x.fst ∧
 Exists fun (x_2 : List Pl.Rt × List Pl.Rt) =>
 (Is (rats (List.getD x.fst x_1 Pl.dR).snd.fst) (rats x_2.fst) ∧ Is (rats x.snd.snd) (rats x_2.snd) ∧ True) ∧
 Sz x_2.fst ∧
 condP (Decidable.decide (x_2.fst = x_2.snd))
 (((0 : Int) ≤ (↑x_1 : Int) ∧ (↑x_1 : Int) < (↑(List.length x.fst) : Int)) ∧
 x_1 < List.length x.fst ∧
 (List.getD x.fst x_1 Pl.dR).snd.snd.fst = (Pl.look x.fst x.snd.fst x.snd.snd).fst ∧
 (List.getD x.fst x_1 Pl.dR).snd.snd.snd = (Pl.look x.fst x.snd.fst x.snd.snd).snd ∧ True)
 (Exists fun (x' : Nat) =>
 (x' ≤ List.length x.fst ∧ Pl.look x.fst x.snd.fst x.snd.snd = Pl.look (List.drop x' x.fst) x.snd.fst x.snd.snd) ∧
 List.length x.fst - x' < List.length x.fst - x_1 ∧
 (x.snd.fst = x.snd.fst ∧
 Is (rats x.snd.snd) (rats x.snd.snd) ∧
 (0 : Nat) = (0 : Nat) ∧ (0 : Nat) = (0 : Nat) ∧ IntKind.i64.wrap ((↑x_1 : Int) + (1 : Int)) = (↑x' : Int) ∧ True) ∧
 (Is (mrows x.fst) (mrows x.fst) ∧ True) ∧ ((0 : Int) = (0 : Int) ∧ (0 : Int) = (0 : Int) ∧ True) ∧ True))
 (Exists fun (x' : Nat) =>
 (x' ≤ List.length x.fst ∧ Pl.look x.fst x.snd.fst x.snd.snd = Pl.look (List.drop x' x.fst) x.snd.fst x.snd.snd) ∧
 List.length x.fst - x' < List.length x.fst - x_1 ∧
 (x.snd.fst = x.snd.fst ∧
 Is (rats x.snd.snd) (rats x.snd.snd) ∧ (0 : Nat) = (0 : Nat) ∧ (0 : Nat) = (0 : Nat) ∧ IntKind.i64.wrap ((↑x_1 : Int) + (1 : Int)) = (↑x' : Int) ∧ True) ∧
 (Is (mrows x.fst) (mrows x.fst) ∧ True) ∧ ((0 : Int) = (0 : Int) ∧ (0 : Int) = (0 : Int) ∧ True) ∧ True))
 ((0 : Int) = (Pl.look x.fst x.snd.fst x.snd.snd).fst ∧ (1 : Int) = (Pl.look x.fst x.snd.fst x.snd.snd).snd ∧ True)) = Goal Tryz.prog [K_l7Rats] (A_l7Look x.1 x.2.1 x.2.2) K_l7Look.1 K_l7Look.2 (x) := by kernel_rfl

theorem vc_l7Term (n : Nat) (x : Pl.Mdl × Pl.TP) : ((Exists fun (x_1 : Nat) =>
 x_1 ≤ x.snd.snd.length ∧
 ((0 : Nat) = (0 : Nat) ∧
 (0 : Nat) = (0 : Nat) ∧
 (0 : Nat) = (0 : Nat) ∧ ((0 : Nat) = (0 : Nat) ∧ (0 : Nat) = (0 : Nat) ∧ (Pl.valL x.fst (List.take x_1 x.snd.snd)).length = (0 : Nat)) ∧ (0 : Int) = (↑x_1 : Int) ∧ True) ∧
 (Is (mrows x.fst) (mrows x.fst) ∧ True) ∧
 (x.snd.fst = x.snd.fst ∧ Is (terms x.snd.snd) (terms x.snd.snd) ∧ True) ∧
 ((0 : Int) = (0 : Int) ∧ (0 : Int) = (0 : Int) ∧ True) ∧ (Pl.valL x.fst (List.take x_1 x.snd.snd)).length = (0 : Nat) ∧ True) ∧
 ∀ (x_1 : Nat),
 x_1 ≤ x.snd.snd.length →
 condP (Decidable.decide ((↑x_1 : Int) < (↑x.snd.snd.length : Int)))
 (((0 : Int) ≤ (↑x_1 : Int) ∧ (↑x_1 : Int) < (↑x.snd.snd.length : Int)) ∧
 x_1 < x.snd.snd.length ∧
 Exists fun (x_2 : Pl.Mdl × Pl.TP) =>
 ((Is (mrows x.fst) (mrows x_2.fst) ∧ True) ∧
 (Pl.Tree.val (x.snd.snd.getD x_1 Pl.dT) = x_2.snd.fst ∧ Is (kidsT (x.snd.snd.getD x_1 Pl.dT)) (terms x_2.snd.snd) ∧ True) ∧ True) ∧
 ((SmM x_2.fst ∧ SmT (Pl.Tree.mk x_2.snd.fst x_2.snd.snd)) ∧ Pl.manyL x_2.snd.snd < n) ∧
 (0 : Nat) + (Pl.valL x.fst (List.take x_1 x.snd.snd)).length ≤ (Pl.valL x.fst (List.take x_1 x.snd.snd)).length ∧
 ((Pl.valL x.fst (List.take x_1 x.snd.snd)).length + (1 : Nat)) * (16 : Nat) ≤ (70368744177664 : Nat) ∧
 Exists fun (x' : Nat) =>
 x' ≤ x.snd.snd.length ∧
 x.snd.snd.length - x' < x.snd.snd.length - x_1 ∧
 ((0 : Nat) = (0 : Nat) ∧
 (0 : Nat) = (0 : Nat) ∧
 (0 : Nat) = (0 : Nat) ∧
 ((0 : Nat) = (0 : Nat) ∧ (Pl.valL x.fst (List.take x_1 x.snd.snd)).length + (1 : Nat) = (Pl.valL x.fst (List.take x' x.snd.snd)).length) ∧
 IntKind.i64.wrap ((↑x_1 : Int) + (1 : Int)) = (↑x' : Int) ∧ True) ∧
 (Is (mrows x.fst) (mrows x.fst) ∧ True) ∧
 (x.snd.fst = x.snd.fst ∧ Is (terms x.snd.snd) (terms x.snd.snd) ∧ True) ∧
 ((0 : Int) = (0 : Int) ∧ (0 : Int) = (0 : Int) ∧ True) ∧
 IsO
 (AObj.arr ((Pl.valL x.fst (List.take x_1 x.snd.snd)).length + (1 : Nat)) (2 : Nat)
 (joinC (Pl.valL x.fst (List.take x_1 x.snd.snd)).length (cQ (Pl.valL x.fst (List.take x_1 x.snd.snd)))
 (rowsCell [[i64 (Pl.valT x_2.fst (Pl.Tree.mk x_2.snd.fst x_2.snd.snd)).fst, i64 (Pl.valT x_2.fst (Pl.Tree.mk x_2.snd.fst x_2.snd.snd)).snd]])))
 (arQ (Pl.valL x.fst (List.take x' x.snd.snd))) ∧
 True)
 ((0 : Nat) + (Pl.valL x.fst (List.take x_1 x.snd.snd)).length ≤ (Pl.valL x.fst (List.take x_1 x.snd.snd)).length ∧
 Exists fun (x_2 : Pl.Mdl × ByteArray × List Pl.Rt) =>
 ((Is (mrows x.fst) (mrows x_2.fst) ∧ True) ∧ x.snd.fst = x_2.snd.fst ∧ Is (rats (Pl.valL x.fst (List.take x_1 x.snd.snd))) (rats x_2.snd.snd) ∧ True) ∧
 SmM x_2.fst ∧
 (Pl.look x_2.fst x_2.snd.fst x_2.snd.snd).fst = (Pl.valT x.fst (Pl.Tree.mk x.snd.fst x.snd.snd)).fst ∧
 (Pl.look x_2.fst x_2.snd.fst x_2.snd.snd).snd = (Pl.valT x.fst (Pl.Tree.mk x.snd.fst x.snd.snd)).snd ∧ True)) = Goal Tryz.prog [K_l7Look, (K_l7Term n)] (A_l7Term x.1 x.2.1 x.2.2) (K_l7Term (n + 1)).1 (K_l7Term (n + 1)).2 (x) := by kernel_rfl

theorem vc_BinRow (x : Pl.Mdl × Pl.Rw) : ((Exists fun (x_1 : Nat × Nat) =>
 (x_1.fst ≤ x_1.snd ∧ x_1.snd ≤ List.length x.fst ∧ Pl.bsR x.fst x.snd = Pl.bsF (Pl.rowBelow x.fst x.snd) x_1.fst x_1.snd) ∧
 (Is (mrows x.fst) (mrows x.fst) ∧
 True ∧ (0 : Nat) = (0 : Nat) ∧ (↑(List.length x.fst) : Int) = (↑(List.length x.fst) : Int) ∧ (0 : Int) = (↑x_1.fst : Int) ∧ (↑(List.length x.fst) : Int) = (↑x_1.snd : Int) ∧ True) ∧
 (x.snd.fst = x.snd.fst ∧ Is (rats x.snd.snd.fst) (rats x.snd.snd.fst) ∧ x.snd.snd.snd.fst = x.snd.snd.snd.fst ∧ x.snd.snd.snd.snd = x.snd.snd.snd.snd ∧ True) ∧ True) ∧
 ∀ (x_1 : Nat × Nat),
 x_1.fst ≤ x_1.snd ∧ x_1.snd ≤ List.length x.fst ∧ Pl.bsR x.fst x.snd = Pl.bsF (Pl.rowBelow x.fst x.snd) x_1.fst x_1.snd →
 condP (Decidable.decide ((↑x_1.fst : Int) < (↑x_1.snd : Int)))
 ((0 : Int) ≤ (1 : Int) ∧
 ((0 : Int) ≤ IntKind.i64.wrap ((IntKind.u64.wrap (IntKind.i64.wrap ((↑x_1.fst : Int) + (↑x_1.snd : Int)))).fdiv ((2 : Int) ^ (1 : Nat))) ∧
 IntKind.i64.wrap ((IntKind.u64.wrap (IntKind.i64.wrap ((↑x_1.fst : Int) + (↑x_1.snd : Int)))).fdiv ((2 : Int) ^ (1 : Nat))) < (↑(List.length x.fst) : Int)) ∧
 (IntKind.i64.wrap ((IntKind.u64.wrap (IntKind.i64.wrap ((↑x_1.fst : Int) + (↑x_1.snd : Int)))).fdiv ((2 : Int) ^ (1 : Nat)))).toNat < List.length x.fst ∧
 Exists fun (x_2 : Pl.Rw × Pl.Rw) =>
 (((List.getD x.fst (IntKind.i64.wrap ((IntKind.u64.wrap (IntKind.i64.wrap ((↑x_1.fst : Int) + (↑x_1.snd : Int)))).fdiv ((2 : Int) ^ (1 : Nat)))).toNat Pl.dR).fst =
 x_2.fst.fst ∧
 Is
 (rats
 (List.getD x.fst (IntKind.i64.wrap ((IntKind.u64.wrap (IntKind.i64.wrap ((↑x_1.fst : Int) + (↑x_1.snd : Int)))).fdiv ((2 : Int) ^ (1 : Nat)))).toNat
 Pl.dR).snd.fst)
 (rats x_2.fst.snd.fst) ∧
 (List.getD x.fst (IntKind.i64.wrap ((IntKind.u64.wrap (IntKind.i64.wrap ((↑x_1.fst : Int) + (↑x_1.snd : Int)))).fdiv ((2 : Int) ^ (1 : Nat)))).toNat
 Pl.dR).snd.snd.fst =
 x_2.fst.snd.snd.fst ∧
 (List.getD x.fst (IntKind.i64.wrap ((IntKind.u64.wrap (IntKind.i64.wrap ((↑x_1.fst : Int) + (↑x_1.snd : Int)))).fdiv ((2 : Int) ^ (1 : Nat)))).toNat
 Pl.dR).snd.snd.snd =
 x_2.fst.snd.snd.snd ∧
 True) ∧
 (x.snd.fst = x_2.snd.fst ∧ Is (rats x.snd.snd.fst) (rats x_2.snd.snd.fst) ∧ x.snd.snd.snd.fst = x_2.snd.snd.snd.fst ∧ x.snd.snd.snd.snd = x_2.snd.snd.snd.snd ∧ True) ∧
 True) ∧
 (Sz x_2.fst.snd.fst ∧ Sz x_2.snd.snd.fst) ∧
 condP (Decidable.decide (Pl.cmpRows x_2.fst x_2.snd < (0 : Int)))
 (Exists fun (x' : Nat × Nat) =>
 (x'.fst ≤ x'.snd ∧ x'.snd ≤ List.length x.fst ∧ Pl.bsR x.fst x.snd = Pl.bsF (Pl.rowBelow x.fst x.snd) x'.fst x'.snd) ∧
 x'.snd - x'.fst < x_1.snd - x_1.fst ∧
 (Is (mrows x.fst) (mrows x.fst) ∧
 True ∧
 (0 : Nat) = (0 : Nat) ∧
 (↑(List.length x.fst) : Int) = (↑(List.length x.fst) : Int) ∧
 IntKind.i64.wrap
 (IntKind.i64.wrap ((IntKind.u64.wrap (IntKind.i64.wrap ((↑x_1.fst : Int) + (↑x_1.snd : Int)))).fdiv ((2 : Int) ^ (1 : Nat))) + (1 : Int)) =
 (↑x'.fst : Int) ∧
 (↑x_1.snd : Int) = (↑x'.snd : Int) ∧ True) ∧
 (x.snd.fst = x.snd.fst ∧ Is (rats x.snd.snd.fst) (rats x.snd.snd.fst) ∧ x.snd.snd.snd.fst = x.snd.snd.snd.fst ∧ x.snd.snd.snd.snd = x.snd.snd.snd.snd ∧ True) ∧
 True)
 (Exists fun (x' : Nat × Nat) =>
 (x'.fst ≤ x'.snd ∧ x'.snd ≤ List.length x.fst ∧ Pl.bsR x.fst x.snd = Pl.bsF (Pl.rowBelow x.fst x.snd) x'.fst x'.snd) ∧
 x'.snd - x'.fst < x_1.snd - x_1.fst ∧
 (Is (mrows x.fst) (mrows x.fst) ∧
 True ∧
 (0 : Nat) = (0 : Nat) ∧
 (↑(List.length x.fst) : Int) = (↑(List.length x.fst) : Int) ∧
 (↑x_1.fst : Int) = (↑x'.fst : Int) ∧
 IntKind.i64.wrap ((IntKind.u64.wrap (IntKind.i64.wrap ((↑x_1.fst : Int) + (↑x_1.snd : Int)))).fdiv ((2 : Int) ^ (1 : Nat))) = (↑x'.snd : Int) ∧ True) ∧
 (x.snd.fst = x.snd.fst ∧ Is (rats x.snd.snd.fst) (rats x.snd.snd.fst) ∧ x.snd.snd.snd.fst = x.snd.snd.snd.fst ∧ x.snd.snd.snd.snd = x.snd.snd.snd.snd ∧ True) ∧
 True))
 (condP (Decidable.decide ((↑x_1.fst : Int) < (↑(List.length x.fst) : Int)))
 (((0 : Int) ≤ (↑x_1.fst : Int) ∧ (↑x_1.fst : Int) < (↑(List.length x.fst) : Int)) ∧
 x_1.fst < List.length x.fst ∧
 Exists fun (x_2 : Pl.Rw × Pl.Rw) =>
 (((List.getD x.fst x_1.fst Pl.dR).fst = x_2.fst.fst ∧
 Is (rats (List.getD x.fst x_1.fst Pl.dR).snd.fst) (rats x_2.fst.snd.fst) ∧
 (List.getD x.fst x_1.fst Pl.dR).snd.snd.fst = x_2.fst.snd.snd.fst ∧ (List.getD x.fst x_1.fst Pl.dR).snd.snd.snd = x_2.fst.snd.snd.snd ∧ True) ∧
 (x.snd.fst = x_2.snd.fst ∧ Is (rats x.snd.snd.fst) (rats x_2.snd.snd.fst) ∧ x.snd.snd.snd.fst = x_2.snd.snd.snd.fst ∧ x.snd.snd.snd.snd = x_2.snd.snd.snd.snd ∧ True) ∧
 True) ∧
 (Sz x_2.fst.snd.fst ∧ Sz x_2.snd.snd.fst) ∧ (↑x_1.fst : Int) = (↑(Pl.bsR x.fst x.snd) : Int) ∧ (Pl.cmpRows x_2.fst x_2.snd == (0 : Int)) = Pl.bsHit x.fst x.snd ∧ True)
 ((↑x_1.fst : Int) = (↑(Pl.bsR x.fst x.snd) : Int) ∧ Bool.false = Pl.bsHit x.fst x.snd ∧ True))) = Goal Tryz.prog [K_compareRows] (A_BinRow x.1 x.2) K_BinRow.1 K_BinRow.2 (x) := by kernel_rfl

theorem vc_value (n : Nat) (x : Pl.Mdl × Pl.TP) : ((Exists fun (x_1 : Nat) =>
 x_1 ≤ x.snd.snd.length ∧
 ((0 : Nat) = (0 : Nat) ∧
 (0 : Nat) = (0 : Nat) ∧
 (0 : Nat) = (0 : Nat) ∧ (0 : Nat) = (0 : Nat) ∧ Is (terms x.snd.snd) (terms x.snd.snd) ∧ (↑x.snd.snd.length : Int) = (↑x.snd.snd.length : Int) ∧ (0 : Int) = (↑x_1 : Int) ∧ True) ∧
 (Is (mrows x.fst) (mrows x.fst) ∧ True) ∧
 (x.snd.fst = x.snd.fst ∧ Is (terms x.snd.snd) (terms x.snd.snd) ∧ True) ∧
 ((0 : Int) = (0 : Int) ∧ (0 : Int) = (0 : Int) ∧ True) ∧
 (x.snd.fst = x.snd.fst ∧
 ((0 : Nat) = (0 : Nat) ∧ (0 : Nat) = (0 : Nat) ∧ (Pl.valL x.fst (List.take x_1 x.snd.snd)).length = (0 : Nat)) ∧ (0 : Int) = (0 : Int) ∧ (0 : Int) = (0 : Int) ∧ True) ∧
 (Pl.valL x.fst (List.take x_1 x.snd.snd)).length = (0 : Nat) ∧ True) ∧
 ∀ (x_1 : Nat),
 x_1 ≤ x.snd.snd.length →
 condP (Decidable.decide ((↑x_1 : Int) < (↑x.snd.snd.length : Int)))
 (((0 : Int) ≤ (↑x_1 : Int) ∧ (↑x_1 : Int) < (↑x.snd.snd.length : Int)) ∧
 x_1 < x.snd.snd.length ∧
 Exists fun (x_2 : Pl.Mdl × Pl.TP) =>
 ((Is (mrows x.fst) (mrows x_2.fst) ∧ True) ∧
 (Pl.Tree.val (x.snd.snd.getD x_1 Pl.dT) = x_2.snd.fst ∧ Is (kidsT (x.snd.snd.getD x_1 Pl.dT)) (terms x_2.snd.snd) ∧ True) ∧ True) ∧
 ((Pl.mL Option.none x_2.fst = Bool.true ∧ SmM x_2.fst ∧ SmT (Pl.Tree.mk x_2.snd.fst x_2.snd.snd)) ∧ Pl.manyL x_2.snd.snd < n) ∧
 (0 : Nat) + (Pl.valL x.fst (List.take x_1 x.snd.snd)).length ≤ (Pl.valL x.fst (List.take x_1 x.snd.snd)).length ∧
 ((Pl.valL x.fst (List.take x_1 x.snd.snd)).length + (1 : Nat)) * (16 : Nat) ≤ (70368744177664 : Nat) ∧
 Exists fun (x' : Nat) =>
 x' ≤ x.snd.snd.length ∧
 x.snd.snd.length - x' < x.snd.snd.length - x_1 ∧
 ((0 : Nat) = (0 : Nat) ∧
 (0 : Nat) = (0 : Nat) ∧
 (0 : Nat) = (0 : Nat) ∧
 (0 : Nat) = (0 : Nat) ∧
 Is (terms x.snd.snd) (terms x.snd.snd) ∧
 (↑x.snd.snd.length : Int) = (↑x.snd.snd.length : Int) ∧ IntKind.i64.wrap ((↑x_1 : Int) + (1 : Int)) = (↑x' : Int) ∧ True) ∧
 (Is (mrows x.fst) (mrows x.fst) ∧ True) ∧
 (x.snd.fst = x.snd.fst ∧ Is (terms x.snd.snd) (terms x.snd.snd) ∧ True) ∧
 ((0 : Int) = (0 : Int) ∧ (0 : Int) = (0 : Int) ∧ True) ∧
 (x.snd.fst = x.snd.fst ∧
 ((0 : Nat) = (0 : Nat) ∧ (Pl.valL x.fst (List.take x_1 x.snd.snd)).length + (1 : Nat) = (Pl.valL x.fst (List.take x' x.snd.snd)).length) ∧
 (0 : Int) = (0 : Int) ∧ (0 : Int) = (0 : Int) ∧ True) ∧
 IsO
 (AObj.arr ((Pl.valL x.fst (List.take x_1 x.snd.snd)).length + (1 : Nat)) (2 : Nat)
 (joinC (Pl.valL x.fst (List.take x_1 x.snd.snd)).length (cQ (Pl.valL x.fst (List.take x_1 x.snd.snd)))
 (rowsCell [[i64 (Pl.valT x_2.fst (Pl.Tree.mk x_2.snd.fst x_2.snd.snd)).fst, i64 (Pl.valT x_2.fst (Pl.Tree.mk x_2.snd.fst x_2.snd.snd)).snd]])))
 (arQ (Pl.valL x.fst (List.take x' x.snd.snd))) ∧
 True)
 ((0 : Nat) + (Pl.valL x.fst (List.take x_1 x.snd.snd)).length ≤ (Pl.valL x.fst (List.take x_1 x.snd.snd)).length ∧
 Exists fun (x_2 : Pl.Mdl × Pl.Rw) =>
 (Is (mrows x.fst) (mrows x_2.fst) ∧
 (x.snd.fst = x_2.snd.fst ∧
 Is (rats (Pl.valL x.fst (List.take x_1 x.snd.snd))) (rats x_2.snd.snd.fst) ∧ (0 : Int) = x_2.snd.snd.snd.fst ∧ (0 : Int) = x_2.snd.snd.snd.snd ∧ True) ∧
 True ∧ True) ∧
 (SmM x_2.fst ∧ Sz x_2.snd.snd.fst) ∧
 condP (!Pl.bsHit x_2.fst x_2.snd)
 (Exists fun (x_3 : Int) =>
 ((0 : Int) = x_3 ∧ True) ∧ True ∧ x_3 = (Pl.valT x.fst (Pl.Tree.mk x.snd.fst x.snd.snd)).fst ∧ Int.ofNat ((1 : Nat)) = (Pl.valT x.fst (Pl.Tree.mk x.snd.fst x.snd.snd)).snd ∧ True)
 (((0 : Int) ≤ (↑(Pl.bsR x_2.fst x_2.snd) : Int) ∧ (↑(Pl.bsR x_2.fst x_2.snd) : Int) < (↑(List.length x.fst) : Int)) ∧
 Pl.bsR x_2.fst x_2.snd < List.length x.fst ∧
 (List.getD x.fst (Pl.bsR x_2.fst x_2.snd) Pl.dR).snd.snd.fst = (Pl.valT x.fst (Pl.Tree.mk x.snd.fst x.snd.snd)).fst ∧
 (List.getD x.fst (Pl.bsR x_2.fst x_2.snd) Pl.dR).snd.snd.snd = (Pl.valT x.fst (Pl.Tree.mk x.snd.fst x.snd.snd)).snd ∧ True))) = Goal Tryz.prog [K_whole, K_BinRow, (K_value n)] (A_value x.1 x.2.1 x.2.2) (K_value (n + 1)).1 (K_value (n + 1)).2 (x) := by kernel_rfl

theorem vc_sModelTerm (x : Pl.Sig × Pl.Mdl × Pl.TP) : (Exists fun (x_1 : Pl.Sig × Pl.TP) =>
 ((Is (syms x.fst) (syms x_1.fst) ∧ True) ∧ (x.snd.snd.fst = x_1.snd.fst ∧ Is (terms x.snd.snd.snd) (terms x_1.snd.snd) ∧ True) ∧ True) ∧
 (SmG x_1.fst ∧ SmT (Pl.Tree.mk x_1.snd.fst x_1.snd.snd)) ∧
 condP (!(Pl.termSort x_1.fst (Pl.Tree.mk x_1.snd.fst x_1.snd.snd)).snd)
 (((0 : Int) = (Pl.modelTerm x.fst x.snd.fst (Pl.Tree.mk x.snd.snd.fst x.snd.snd.snd)).fst.fst ∧
 (0 : Int) = (Pl.modelTerm x.fst x.snd.fst (Pl.Tree.mk x.snd.snd.fst x.snd.snd.snd)).fst.snd ∧ True) ∧
 Bool.false = (Pl.modelTerm x.fst x.snd.fst (Pl.Tree.mk x.snd.snd.fst x.snd.snd.snd)).snd ∧ True)
 (Exists fun (x_2 : Pl.Sig × Pl.Mdl) =>
 ((Is (syms x.fst) (syms x_2.fst) ∧ True) ∧ (Is (mrows x.snd.fst) (mrows x_2.snd) ∧ True) ∧ True) ∧
 (SmG x_2.fst ∧ SmM x_2.snd) ∧
 condP (!Pl.modelOk x_2.fst x_2.snd)
 (((0 : Int) = (Pl.modelTerm x.fst x.snd.fst (Pl.Tree.mk x.snd.snd.fst x.snd.snd.snd)).fst.fst ∧
 (0 : Int) = (Pl.modelTerm x.fst x.snd.fst (Pl.Tree.mk x.snd.snd.fst x.snd.snd.snd)).fst.snd ∧ True) ∧
 Bool.false = (Pl.modelTerm x.fst x.snd.fst (Pl.Tree.mk x.snd.snd.fst x.snd.snd.snd)).snd ∧ True)
 (Exists fun (x_3 : Pl.Mdl × Pl.TP) =>
 ((Is (mrows x.snd.fst) (mrows x_3.fst) ∧ True) ∧ (x.snd.snd.fst = x_3.snd.fst ∧ Is (terms x.snd.snd.snd) (terms x_3.snd.snd) ∧ True) ∧ True) ∧
 (SmM x_3.fst ∧ SmT (Pl.Tree.mk x_3.snd.fst x_3.snd.snd)) ∧
 ((Pl.valT x_3.fst (Pl.Tree.mk x_3.snd.fst x_3.snd.snd)).fst = (Pl.modelTerm x.fst x.snd.fst (Pl.Tree.mk x.snd.snd.fst x.snd.snd.snd)).fst.fst ∧
 (Pl.valT x_3.fst (Pl.Tree.mk x_3.snd.fst x_3.snd.snd)).snd = (Pl.modelTerm x.fst x.snd.fst (Pl.Tree.mk x.snd.snd.fst x.snd.snd.snd)).fst.snd ∧ True) ∧
 Bool.true = (Pl.modelTerm x.fst x.snd.fst (Pl.Tree.mk x.snd.snd.fst x.snd.snd.snd)).snd ∧ True))) = Goal Tryz.prog [K_sTermSort, K_sModelOk, K_lTm] ([]) K_sModelTerm.1 K_sModelTerm.2 (x) := by kernel_rfl

theorem vc_iModelTerm (x : Pl.Sig × Pl.Mdl × Pl.TP) : (Exists fun (x_1 : Pl.Sig × Pl.TP) =>
 ((Is (syms x.fst) (syms x_1.fst) ∧ True) ∧ (x.snd.snd.fst = x_1.snd.fst ∧ Is (terms x.snd.snd.snd) (terms x_1.snd.snd) ∧ True) ∧ True) ∧
 (SmG x_1.fst ∧ SmT (Pl.Tree.mk x_1.snd.fst x_1.snd.snd)) ∧
 condP (!(Pl.termSort x_1.fst (Pl.Tree.mk x_1.snd.fst x_1.snd.snd)).snd)
 (((0 : Int) = (Pl.modelTerm x.fst x.snd.fst (Pl.Tree.mk x.snd.snd.fst x.snd.snd.snd)).fst.fst ∧
 (0 : Int) = (Pl.modelTerm x.fst x.snd.fst (Pl.Tree.mk x.snd.snd.fst x.snd.snd.snd)).fst.snd ∧ True) ∧
 Bool.false = (Pl.modelTerm x.fst x.snd.fst (Pl.Tree.mk x.snd.snd.fst x.snd.snd.snd)).snd ∧ True)
 (Exists fun (x_2 : Pl.Sig × Pl.Mdl) =>
 ((Is (syms x.fst) (syms x_2.fst) ∧ True) ∧ (Is (mrows x.snd.fst) (mrows x_2.snd) ∧ True) ∧ True) ∧
 (SmG x_2.fst ∧ SmM x_2.snd) ∧
 condP (!Pl.modelOk x_2.fst x_2.snd)
 (((0 : Int) = (Pl.modelTerm x.fst x.snd.fst (Pl.Tree.mk x.snd.snd.fst x.snd.snd.snd)).fst.fst ∧
 (0 : Int) = (Pl.modelTerm x.fst x.snd.fst (Pl.Tree.mk x.snd.snd.fst x.snd.snd.snd)).fst.snd ∧ True) ∧
 Bool.false = (Pl.modelTerm x.fst x.snd.fst (Pl.Tree.mk x.snd.snd.fst x.snd.snd.snd)).snd ∧ True)
 (Exists fun (x_3 : Pl.Mdl × Pl.TP) =>
 ((Is (mrows x.snd.fst) (mrows x_3.fst) ∧ True) ∧ (x.snd.snd.fst = x_3.snd.fst ∧ Is (terms x.snd.snd.snd) (terms x_3.snd.snd) ∧ True) ∧ True) ∧
 (Pl.mL Option.none x_3.fst = Bool.true ∧ SmM x_3.fst ∧ SmT (Pl.Tree.mk x_3.snd.fst x_3.snd.snd)) ∧
 ((Pl.valT x_3.fst (Pl.Tree.mk x_3.snd.fst x_3.snd.snd)).fst = (Pl.modelTerm x.fst x.snd.fst (Pl.Tree.mk x.snd.snd.fst x.snd.snd.snd)).fst.fst ∧
 (Pl.valT x_3.fst (Pl.Tree.mk x_3.snd.fst x_3.snd.snd)).snd = (Pl.modelTerm x.fst x.snd.fst (Pl.Tree.mk x.snd.snd.fst x.snd.snd.snd)).fst.snd ∧ True) ∧
 Bool.true = (Pl.modelTerm x.fst x.snd.fst (Pl.Tree.mk x.snd.snd.fst x.snd.snd.snd)).snd ∧ True))) = Goal Tryz.prog [K_iTermSort, K_iModelOk, K_val] ([]) K_iModelTerm.1 K_iModelTerm.2 (x) := by kernel_rfl

end Cg

/-
  The codes' contracts: the values of terms. No condition.
-/
set_option linter.unusedVariables false
set_option linter.unusedSimpArgs false
set_option maxRecDepth 100000
set_option maxHeartbeats 1000000
namespace Pl
open Go Cg
theorem take_getD {α : Type} (d : α) {l : List α} {i : Nat} (h : i < l.length) : l.take (i + 1) = l.take i ++ [l.getD i d] := by
  rw [List.take_succ_eq_append_getElem h]; simp [h]
theorem bl_trans : ∀ {x y z : List UInt8}, Op.bytesLess x y = true → Op.bytesLess y z = true → Op.bytesLess x z = true
  | [], [], _, h, _ => by cases h
  | [], _ :: _, [], _, h => by cases h
  | [], _ :: _, _ :: _, _, _ => rfl
  | _ :: _, [], _, h, _ => by cases h
  | _ :: _, _ :: _, [], _, h => by cases h
  | a :: x, b :: y, c :: z, h, k => by
    simp only [Op.bytesLess, Bool.or_eq_true, decide_eq_true_eq, Bool.and_eq_true, beq_iff_eq, UInt8.lt_iff_toNat_lt] at h k ⊢
    rcases h with h | ⟨h, h1⟩ <;> rcases k with k | ⟨k, k1⟩
    · exact .inl (by omega)
    · subst k; exact .inl h
    · subst h; exact .inl k
    · subst h; subst k; exact .inr ⟨rfl, bl_trans h1 k1⟩
theorem valL_map (m : Mdl) : ∀ l : List Tm, valL m l = l.map (valT m)
  | [] => rfl
  | t :: ts => by simp only [valL, List.map_cons, valL_map m ts]
theorem valL_len (m : Mdl) (l : List Tm) : (valL m l).length = l.length := by rw [valL_map]; simp
theorem valL_step (m : Mdl) {l : List Tm} {k : Nat} (h : k < l.length) : valL m (l.take (k + 1)) = valL m (l.take k) ++ [valT m (l.getD k dT)] := by
  rw [valL_map, valL_map, take_getD dT h]; simp
theorem valT_mk (m : Mdl) (v : ByteArray) (ks : List Tm) : valT m (.mk v ks) = look m v (valL m ks) := by rw [valT]
theorem look_cons (r : Rw) (m : Mdl) (nm : ByteArray) (args : List Rt) : look (r :: m) nm args = if r.1 = nm ∧ r.2.1 = args then r.2.2 else look m nm args := by
  unfold look
  rw [List.find?_cons]
  by_cases h : r.1 = nm ∧ r.2.1 = args
  · rw [if_pos h, decide_eq_true h.1, decide_eq_true h.2]; rfl
  · rw [if_neg h]
    have : (decide (r.1 = nm) && decide (r.2.1 = args)) = false := by
      rw [← Bool.decide_and]; exact decide_eq_false h
    rw [this]
theorem ratOk_one : ratOk (0, 1) = true := by decide
theorem look_ok {m : Mdl} (h : mL none m = true) (nm : ByteArray) (args : List Rt) : ratOk (look m nm args) = true := by
  unfold look
  cases e : m.find? fun r => decide (r.1 = nm) && decide (r.2.1 = args) with
  | none => exact ratOk_one
  | some r => exact (rowOk_iff.1 (mL_mem h r (List.mem_of_find?_eq_some e))).2.2.1
theorem valT_ok {m : Mdl} (h : mL none m = true) (t : Tm) : ratOk (valT m t) = true := by
  cases t with
  | mk v ks => rw [valT_mk]; exact look_ok h _ _
theorem valL_ok {m : Mdl} (h : mL none m = true) (l : List Tm) : (valL m l).all ratOk = true := by
  rw [valL_map, List.all_map, List.all_eq_true]
  exact fun t _ => valT_ok h t

/-! ### Rows in order -/
theorem ratLess_iff {x y : Rt} (hx : ratOk x = true) (hy : ratOk y = true) : ratLess x y = true ↔ x.1 * y.2 < y.1 * x.2 := by
  unfold ratLess; rw [hx, hy]; simp
theorem ratLess_trans {x y z : Rt} (hx : ratOk x = true) (hy : ratOk y = true) (hz : ratOk z = true) (h1 : ratLess x y = true) (h2 : ratLess y z = true) : ratLess x z = true := by
  rw [ratLess_iff hx hy] at h1
  rw [ratLess_iff hy hz] at h2
  rw [ratLess_iff hx hz]
  have p1 := (ratOk_iff.1 hx).2.2.1
  have p2 := (ratOk_iff.1 hy).2.2.1
  have p3 := (ratOk_iff.1 hz).2.2.1
  have e1 : x.1 * y.2 * z.2 < y.1 * x.2 * z.2 := Int.mul_lt_mul_of_pos_right h1 (by omega)
  have e2 : y.1 * z.2 * x.2 < z.1 * y.2 * x.2 := Int.mul_lt_mul_of_pos_right h2 (by omega)
  have e3 : (x.1 * z.2) * y.2 < (z.1 * x.2) * y.2 := by
    have a1 : x.1 * z.2 * y.2 = x.1 * y.2 * z.2 := by rw [Int.mul_assoc, Int.mul_comm z.2, ← Int.mul_assoc]
    have a2 : z.1 * x.2 * y.2 = z.1 * y.2 * x.2 := by rw [Int.mul_assoc, Int.mul_comm x.2, ← Int.mul_assoc]
    have a3 : y.1 * x.2 * z.2 = y.1 * z.2 * x.2 := by rw [Int.mul_assoc, Int.mul_comm x.2, ← Int.mul_assoc]
    rw [a1, a2]; rw [a3] at e1; omega
  exact Int.lt_of_mul_lt_mul_right e3 (by omega)
theorem argsLess_trans : ∀ {a b c : List Rt}, a.length = b.length → b.length = c.length → a.all ratOk = true → b.all ratOk = true → c.all ratOk = true → argsLess a b = true → argsLess b c = true → argsLess a c = true
  | [], _, _, _, _, _, _, _, h, _ => by cases h
  | _ :: _, [], _, h, _, _, _, _, _, _ => by simp at h
  | _ :: _, _ :: _, [], _, h, _, _, _, _, _ => by simp at h
  | x :: a, y :: b, z :: c, h1, h2, ha, hb, hc, l1, l2 => by
    simp only [List.all_cons, Bool.and_eq_true] at ha hb hc
    simp only [argsLess] at l1 l2 ⊢
    by_cases e1 : x = y
    · subst e1
      rw [if_pos rfl] at l1
      by_cases e2 : x = z
      · subst e2
        rw [if_pos rfl] at l2 ⊢
        exact argsLess_trans (by simpa using h1) (by simpa using h2) ha.2 hb.2 hc.2 l1 l2
      · rw [if_neg e2] at l2 ⊢; exact l2
    · rw [if_neg e1] at l1
      by_cases e2 : y = z
      · subst e2
        rw [if_neg e1]; exact l1
      · rw [if_neg e2] at l2
        have l3 := ratLess_trans ha.1 hb.1 hc.1 l1 l2
        by_cases e3 : x = z
        · subst e3
          rw [ratLess_iff ha.1 ha.1] at l3; omega
        · rw [if_neg e3]; exact l3
theorem sLess_trans {a b c : ByteArray} (h1 : sLess a b = true) (h2 : sLess b c = true) : sLess a c = true := bl_trans h1 h2
theorem sLess_irrefl (a : ByteArray) : sLess a a = false := bl_irrefl _
theorem rowLess_trans {x y z : Rw} (hx : x.2.1.all ratOk = true) (hy : y.2.1.all ratOk = true) (hz : z.2.1.all ratOk = true) (h1 : rowLess x y = true) (h2 : rowLess y z = true) : rowLess x z = true := by
  unfold rowLess at h1 h2 ⊢
  by_cases e1 : x.1 = y.1
  · rw [if_pos e1] at h1
    rw [e1]
    by_cases e2 : y.1 = z.1
    · rw [if_pos e2] at h2 ⊢
      by_cases l1 : x.2.1.length = y.2.1.length
      · rw [if_pos l1] at h1
        rw [l1]
        by_cases l2 : y.2.1.length = z.2.1.length
        · rw [if_pos l2] at h2 ⊢; exact argsLess_trans l1 l2 hx hy hz h1 h2
        · rw [if_neg l2] at h2 ⊢; exact h2
      · rw [if_neg l1] at h1
        simp only [decide_eq_true_eq] at h1
        by_cases l2 : y.2.1.length = z.2.1.length
        · rw [← l2, if_neg l1]; simpa using h1
        · rw [if_neg l2] at h2
          simp only [decide_eq_true_eq] at h2
          rw [if_neg (by omega)]; simp only [decide_eq_true_eq]; omega
    · rw [if_neg e2] at h2 ⊢; exact h2
  · rw [if_neg e1] at h1
    by_cases e2 : y.1 = z.1
    · rw [← e2, if_neg e1]; exact h1
    · rw [if_neg e2] at h2
      have h3 := sLess_trans h1 h2
      rw [if_neg]
      · exact h3
      · intro e; rw [e, sLess_irrefl] at h3; cases h3
theorem argsLess_irrefl : ∀ l : List Rt, argsLess l l = false
  | [] => rfl
  | a :: l => by simp only [argsLess, if_true]; exact argsLess_irrefl l
theorem rowLess_irrefl {x : Rw} (hx : x.2.1.all ratOk = true) : rowLess x x = false := by
  unfold rowLess
  rw [if_pos rfl, if_pos rfl]
  exact argsLess_irrefl _
theorem cmpArgs_zero : ∀ {a b : List Rt}, a.all ratOk = true → b.all ratOk = true → (cmpArgs a b = 0 ↔ a = b)
  | [], [], _, _ => by simp [cmpArgs]
  | [], _ :: _, _, _ => by simp [cmpArgs]
  | _ :: _, [], _, _ => by simp [cmpArgs]
  | x :: a, y :: b, ha, hb => by
    simp only [List.all_cons, Bool.and_eq_true] at ha hb
    have h1 := cmpRat_zero ha.1 hb.1
    simp only [cmpArgs]
    by_cases e : x = y
    · subst e
      rw [if_pos (h1.2 rfl), cmpArgs_zero ha.2 hb.2]; simp
    · rw [if_neg (fun h => e (h1.1 h))]
      exact ⟨fun h => absurd (h1.1 h) e, fun h => by simp at h; exact absurd h.1 e⟩
theorem cmpRows_zero {x y : Rw} (hx : x.2.1.all ratOk = true) (hy : y.2.1.all ratOk = true) : cmpRows x y = 0 ↔ x.1 = y.1 ∧ x.2.1 = y.2.1 := by
  unfold cmpRows
  simp only [orI, cmpS_zero, cmpI_zero]
  have h3 := cmpArgs_zero hx hy
  by_cases h1 : x.1 = y.1
  · rw [if_pos h1]
    by_cases h2 : (x.2.1.length : Int) = y.2.1.length
    · rw [if_pos h2]
      split
      · rename_i h4; exact ⟨fun _ => ⟨h1, h3.1 h4⟩, fun _ => rfl⟩
      · rename_i h4; exact ⟨fun h => absurd h h4, fun h => absurd (h3.2 h.2) h4⟩
    · rw [if_neg h2, cmpI_zero]
      exact ⟨fun h => absurd h h2, fun h => absurd (by rw [h.2]) h2⟩
  · rw [if_neg h1, cmpS_zero]
    exact ⟨fun h => absurd h h1, fun h => absurd h.1 h1⟩
/-- Rows in order: each is below those behind it. -/
theorem mL_sorted : ∀ {m : Mdl} {p : Option Rw}, mL p m = true → (∀ q, p = some q → q.2.1.all ratOk = true → ∀ y ∈ m, rowLess q y = true) ∧ ∀ i j, i < j → j < m.length → rowLess (m.getD i dR) (m.getD j dR) = true
  | [], _, _ => ⟨fun _ _ _ y hy => (by cases hy), fun i j _ h => absurd h (Nat.not_lt_zero _)⟩
  | x :: m, p, h => by
    have hall := mL_mem h
    simp only [mL, Bool.and_eq_true] at h
    obtain ⟨⟨h1, h2⟩, h3⟩ := h
    have hx := (rowOk_iff.1 h1).2.2.2
    obtain ⟨i1, i2⟩ := mL_sorted h3
    have i1 := i1 x rfl hx
    refine ⟨fun q hq hqo y hy => ?_, fun i j hij hj => ?_⟩
    · subst hq
      rcases List.mem_cons.1 hy with e | e
      · subst e; exact h2
      · exact rowLess_trans hqo hx (rowOk_iff.1 (hall y (List.mem_cons_of_mem _ e))).2.2.2 h2 (i1 y e)
    · cases j with
      | zero => omega
      | succ j =>
        cases i with
        | zero => exact i1 _ (getD_mem dR (by simpa using hj))
        | succ i => exact i2 i j (by omega) (by simpa using hj)
theorem cmpRows_less {x y : Rw} (ha : x.2.1.all ratOk = true) (hb : y.2.1.all ratOk = true) : cmpRows x y < 0 ↔ rowLess x y = true := by
  unfold cmpRows rowLess
  simp only [orI, cmpS_zero, cmpI_zero]
  by_cases h1 : x.1 = y.1
  · rw [if_pos h1, if_pos h1]
    by_cases h2 : x.2.1.length = y.2.1.length
    · rw [if_pos (by omega), if_pos h2]
      have := cmpArgs_neg h2 ha hb
      split
      · rename_i h3; rw [← this, h3]
      · exact this
    · rw [if_neg (by omega), if_neg h2, cmpI_neg]
      simp only [decide_eq_true_eq]; omega
  · rw [if_neg h1, if_neg h1]; exact cmpS_neg
theorem rowLess_key {x y z : Rw} (h1 : y.1 = z.1) (h2 : y.2.1 = z.2.1) : rowLess x y = rowLess x z := by
  unfold rowLess; rw [h1, h2]

/-! ### The search -/
theorem bsF_spec {c : Nat → Bool} {n : Nat} (mono : ∀ a b, a ≤ b → b < n → c b = true → c a = true) : ∀ (d i j : Nat), j - i ≤ d → i ≤ j → j ≤ n →
    i ≤ bsF c i j ∧ bsF c i j ≤ j ∧ (∀ t, i ≤ t → t < bsF c i j → c t = true) ∧ (∀ t, bsF c i j ≤ t → t < j → c t = false)
  | 0, i, j, hd, hij, hj => by
    have e : i = j := by omega
    subst e
    rw [bsF, if_neg (Nat.lt_irrefl _)]
    exact ⟨Nat.le_refl _, Nat.le_refl _, fun t _ _ => by omega, fun t _ _ => by omega⟩
  | d + 1, i, j, hd, hij, hj => by
    by_cases h : i < j
    · rw [bsF, if_pos h]
      by_cases hc : c ((i + j) / 2) = true
      · rw [if_pos hc]
        obtain ⟨h1, h2, h3, h4⟩ := bsF_spec mono d ((i + j) / 2 + 1) j (by omega) (by omega) hj
        refine ⟨by omega, h2, fun t ht1 ht2 => ?_, h4⟩
        by_cases ht : t ≤ (i + j) / 2
        · exact mono t _ ht (by omega) hc
        · exact h3 t (by omega) ht2
      · rw [if_neg hc]
        obtain ⟨h1, h2, h3, h4⟩ := bsF_spec mono d i ((i + j) / 2) (by omega) (by omega) (by omega)
        refine ⟨h1, by omega, h3, fun t ht1 ht2 => ?_⟩
        by_cases ht : t < (i + j) / 2
        · exact h4 t ht1 ht
        · cases hct : c t with
          | false => rfl
          | true => exact absurd (mono _ t (by omega) (by omega) hct) hc
    · have e : i = j := by omega
      subst e
      rw [bsF, if_neg (Nat.lt_irrefl _)]
      exact ⟨Nat.le_refl _, Nat.le_refl _, fun t _ _ => by omega, fun t _ _ => by omega⟩
theorem look_hit {nm : ByteArray} {args : List Rt} : ∀ {m : Mdl} {k : Nat}, k < m.length → (m.getD k dR).1 = nm → (m.getD k dR).2.1 = args → (∀ t, t < k → ¬ ((m.getD t dR).1 = nm ∧ (m.getD t dR).2.1 = args)) → look m nm args = (m.getD k dR).2.2
  | [], k, h, _, _, _ => by simp at h
  | x :: m, 0, _, h1, h2, _ => by
    simp only [List.getD_cons_zero] at h1 h2 ⊢
    rw [look_cons, if_pos ⟨h1, h2⟩]
  | x :: m, k + 1, h, h1, h2, h3 => by
    have h0 := h3 0 (by omega)
    simp only [List.getD_cons_zero, List.getD_cons_succ] at h0 h1 h2 ⊢
    rw [look_cons, if_neg h0]
    exact look_hit (by simpa using h) h1 h2 fun t ht => by have := h3 (t + 1) (by omega); simpa only [List.getD_cons_succ] using this
theorem look_miss {nm : ByteArray} {args : List Rt} : ∀ {m : Mdl}, (∀ t, t < m.length → ¬ ((m.getD t dR).1 = nm ∧ (m.getD t dR).2.1 = args)) → look m nm args = (0, 1)
  | [], _ => rfl
  | x :: m, h => by
    have h0 := h 0 (by simp)
    simp only [List.getD_cons_zero] at h0
    rw [look_cons, if_neg h0]
    exact look_miss fun t ht => by have := h (t + 1) (by simpa using ht); simpa only [List.getD_cons_succ] using this
theorem search_look {m : Mdl} (h : mL none m = true) {r : Rw} (hr : r.2.1.all ratOk = true) : bsR m r ≤ m.length ∧ (bsHit m r = true → bsR m r < m.length ∧ look m r.1 r.2.1 = (m.getD (bsR m r) dR).2.2) ∧ (bsHit m r = false → look m r.1 r.2.1 = (0, 1)) := by
  have hm : ∀ t, t < m.length → (m.getD t dR).2.1.all ratOk = true := fun t ht => (rowOk_iff.1 (mL_mem h _ (getD_mem dR ht))).2.2.2
  have hs := (mL_sorted h).2
  have cl : ∀ t, t < m.length → (rowBelow m r t = true ↔ rowLess (m.getD t dR) r = true) := fun t ht => by
    unfold rowBelow; rw [decide_eq_true_eq]; exact cmpRows_less (hm t ht) hr
  have mono : ∀ a b, a ≤ b → b < m.length → rowBelow m r b = true → rowBelow m r a = true := fun a b hab hb hc => by
    by_cases e : a = b
    · rw [e]; exact hc
    · rw [cl b hb] at hc
      rw [cl a (by omega)]
      exact rowLess_trans (hm a (by omega)) (hm b hb) hr (hs a b (by omega) hb) hc
  obtain ⟨h1, h2, h3, h4⟩ := bsF_spec mono m.length 0 m.length (by omega) (by omega) (Nat.le_refl _)
  have e : bsF (rowBelow m r) 0 m.length = bsR m r := rfl
  rw [e] at h1 h2 h3 h4
  have less : ∀ t, t < bsR m r → ¬ ((m.getD t dR).1 = r.1 ∧ (m.getD t dR).2.1 = r.2.1) := fun t ht ⟨e1, e2⟩ => by
    have h5 := h3 t (by omega) ht
    rw [cl t (by omega), rowLess_key (y := r) (z := m.getD t dR) e1.symm e2.symm, rowLess_irrefl (hm t (by omega))] at h5
    cases h5
  refine ⟨h2, fun hh => ?_, fun hh => ?_⟩
  · simp only [bsHit, Bool.and_eq_true, decide_eq_true_eq] at hh
    obtain ⟨hlt, hz⟩ := hh
    obtain ⟨e1, e2⟩ := (cmpRows_zero (hm _ hlt) hr).1 hz
    exact ⟨hlt, look_hit hlt e1 e2 less⟩
  · refine look_miss fun t ht ⟨e1, e2⟩ => ?_
    rcases Nat.lt_trichotomy t (bsR m r) with h5 | h5 | h5
    · exact less t h5 ⟨e1, e2⟩
    · subst h5
      have := (cmpRows_zero (hm _ ht) hr).2 ⟨e1, e2⟩
      simp only [bsHit, this, decide_eq_true ht] at hh
      simp at hh
    · have h6 := hs (bsR m r) t h5 ht
      rw [rowLess_key e1 e2, ← cl _ (by omega), h4 _ (Nat.le_refl _) (by omega)] at h6
      cases h6
end Pl
namespace Cg
open Go Go.Proofs Pl

theorem mid_wrap {a b : Nat} (h : a + b ≤ 1099511627776) : IntKind.i64.wrap ((IntKind.u64.wrap (IntKind.i64.wrap ((a : Int) + (b : Int)))).fdiv 2) = (((a + b) / 2 : Nat) : Int) := by
  rw [wrap_small (x := (a : Int) + b) (by omega) (by omega)]
  have e : IntKind.u64.wrap ((a : Int) + b) = (a : Int) + b := by
    simp only [IntKind.wrap, IntKind.signed, IntKind.bits]
    simp
    omega
  rw [e]
  have e2 : ((a : Int) + b).fdiv 2 = (((a + b) / 2 : Nat) : Int) := by
    rw [Int.fdiv_eq_ediv_of_nonneg _ (by decide)]; omega
  rw [e2]
  exact wrap_small (by omega) (by omega)
theorem k_whole : SoundC Tryz.prog K_whole.1 K_whole.2 := sound_of hm CtxOK.nil (fun _ => []) (by kernel_rfl) fun (x : Int) hl => (by
  rw [← vc_whole x]
  simp [-List.getD_eq_getElem?_getD, -List.mem_cons, -Bool.forall_bool, -Bool.exists_bool, and_assoc, peta, tl_inj, ex_1, ex_2, ex_3, ex_4, ex_5, ex_6, ex_7, ex_8, ex_9, ey_2, ey_3, ey_4, ey_5, ey_6, ey_7, ey_8, ey_9])
theorem k_l7Look : SoundC Tryz.prog K_l7Look.1 K_l7Look.2 := sound_of hm (CtxOK.nil.and k_l7Rats) (fun x => A_l7Look x.1 x.2.1 x.2.2) (by kernel_rfl) fun (x : Mdl × ByteArray × List Rt) hl => (by
  rw [← vc_l7Look x]
  have h1 : SmM x.1 := hl
  obtain ⟨m, nm, args⟩ := x
  dsimp only at *
  simp [-List.getD_eq_getElem?_getD, -List.mem_cons, -Bool.forall_bool, -Bool.exists_bool, and_assoc, peta, tl_inj, ex_1, ex_2, ex_3, ex_4, ex_5, ex_6, ex_7, ex_8, ex_9, ey_2, ey_3, ey_4, ey_5, ey_6, ey_7, ey_8, ey_9]
  have hlen := h1.len
  refine ⟨⟨0, by simp, by simp, rfl⟩, fun k hk he => ⟨fun hlt => ?_, fun hge => ?_⟩⟩
  · rw [drop_get dR hlt, look_cons] at he
    have hz := (h1.mem (getD_mem dR hlt)).2
    refine ⟨hlt, fun e1 => ⟨hlt, by omega, fun e2 => ⟨hlt, ?_⟩, fun e2 => ⟨k + 1, hlt, ?_, by omega, wrap_small (by omega) (by omega)⟩⟩, fun e1 => ⟨k + 1, hlt, ?_, by omega, wrap_small (by omega) (by omega)⟩⟩
    · rw [he, if_pos ⟨e1, e2⟩]; exact ⟨rfl, rfl⟩
    · rw [he, if_neg (fun h => e2 h.2)]
    · rw [he, if_neg (fun h => e1 h.1)]
  · rw [he, drop_end (by omega)]; exact ⟨rfl, rfl⟩)
theorem k_l7Term (n : Nat) : SoundC Tryz.prog (K_l7Term n).1 (K_l7Term n).2 := by
  induction n with
  | zero => exact sound_of hm CtxOK.nil (fun _ => []) (by kernel_rfl) fun x h => absurd h.2 (Nat.not_lt_zero _)
  | succ n ih => exact sound_of hm ((CtxOK.nil.and (K := K_l7Term n) ih).and k_l7Look) (fun x => A_l7Term x.1 x.2.1 x.2.2) (by kernel_rfl) fun (x : Mdl × TP) hl => (by
      have hg : SmM x.1 := hl.1.1
      have ht : SmT (.mk x.2.1 x.2.2) := hl.1.2
      have hn : manyL x.2.2 < n + 1 := hl.2
      clear hl
      rw [← vc_l7Term n x]
      obtain ⟨m, a, b⟩ := x
      dsimp only at *
      simp [-List.getD_eq_getElem?_getD, -List.mem_cons, -Bool.forall_bool, -Bool.exists_bool, and_assoc, peta, tl_inj, ex_1, ex_2, ex_3, ex_4, ex_5, ex_6, ex_7, ex_8, ex_9, ey_2, ey_3, ey_4, ey_5, ey_6, ey_7, ey_8, ey_9]
      have k1 := (SmT.kids ht).len
      refine ⟨⟨0, by simp, by simp [valL], rfl, by simp [valL]⟩, fun k hk => ⟨fun hlt => ?_, fun hge => ?_⟩⟩
      · have hv := valL_step m hlt
        have hl1 := valL_len m (b.take k)
        rw [List.length_take] at hl1
        refine ⟨hlt, hg, (SmT.kids ht).mem (getD_mem dT hlt), by have := manyL_kids (getD_mem dT hlt); omega, by omega, k + 1, hlt, by omega, by rw [hv]; simp, wrap_small (by omega) (by omega), ?_⟩
        rw [hv]; exact rats_push
      · rw [List.take_of_length_le (by omega), valT_mk]; exact ⟨hg, rfl, rfl⟩)
theorem k_lTm : SoundC Tryz.prog K_lTm.1 K_lTm.2 := SoundC.fam (fun x => manyL x.2.2) fun n => k_l7Term n
theorem k_BinRow : SoundC Tryz.prog K_BinRow.1 K_BinRow.2 := sound_of hm (CtxOK.nil.and k_compareRows) (fun x => A_BinRow x.1 x.2) (by kernel_rfl) fun (x : Mdl × Rw) hl => (by
  rw [← vc_BinRow x]
  obtain ⟨h1, h2⟩ : SmM x.1 ∧ Sz x.2.2.1 := hl
  obtain ⟨m, nm, args, u1, u2⟩ := x
  dsimp only at *
  simp [-List.getD_eq_getElem?_getD, -List.mem_cons, -Bool.forall_bool, -Bool.exists_bool, and_assoc, peta, tl_inj, ex_1, ex_2, ex_3, ex_4, ex_5, ex_6, ex_7, ex_8, ex_9, ey_2, ey_3, ey_4, ey_5, ey_6, ey_7, ey_8, ey_9]
  have hlen := h1.len
  refine ⟨⟨0, m.length, by omega, by omega, rfl, rfl, rfl⟩, fun i j hij hj he => ⟨fun hlt => ?_, fun hge => ?_⟩⟩
  · rw [mid_wrap (by omega)]
    rw [bsF, if_pos hlt] at he
    have hm : (i + j) / 2 < m.length := by omega
    have hz := (h1.mem (getD_mem dR hm)).2
    refine ⟨by omega, by omega, by omega, by rw [Int.toNat_natCast]; omega, h2, fun h => ?_, fun h => ?_⟩
    · rw [Int.toNat_natCast] at h
      rw [if_pos (by unfold rowBelow; exact decide_eq_true h)] at he
      exact ⟨(i + j) / 2 + 1, j, by omega, hj, he, by omega, wrap_small (by omega) (by omega), rfl⟩
    · rw [Int.toNat_natCast] at h
      rw [if_neg (by unfold rowBelow; rw [decide_eq_true_eq]; omega)] at he
      exact ⟨i, (i + j) / 2, by omega, by omega, he, by omega, rfl, rfl⟩
  · rw [bsF, if_neg (by omega)] at he
    refine ⟨fun h => ⟨h, by have := (h1.mem (getD_mem dR h)).2; omega, h2, by rw [he], ?_⟩, fun h => ⟨by rw [he], ?_⟩⟩
    · unfold bsHit
      rw [he, decide_eq_true h, Bool.true_and, Bool.beq_eq_decide_eq]
    · unfold bsHit
      rw [he, decide_eq_false (by omega)]; rfl)
theorem k_value (n : Nat) : SoundC Tryz.prog (K_value n).1 (K_value n).2 := by
  induction n with
  | zero => exact sound_of hm CtxOK.nil (fun _ => []) (by kernel_rfl) fun x h => absurd h.2 (Nat.not_lt_zero _)
  | succ n ih => exact sound_of hm (((CtxOK.nil.and (K := K_value n) ih).and k_BinRow).and k_whole) (fun x => A_value x.1 x.2.1 x.2.2) (by kernel_rfl) fun (x : Mdl × TP) hl => (by
      have hs : mL none x.1 = true := hl.1.1
      have hg : SmM x.1 := hl.1.2.1
      have ht : SmT (.mk x.2.1 x.2.2) := hl.1.2.2
      have hn : manyL x.2.2 < n + 1 := hl.2
      clear hl
      rw [← vc_value n x]
      obtain ⟨m, a, b⟩ := x
      dsimp only at *
      simp [-List.getD_eq_getElem?_getD, -List.mem_cons, -Bool.forall_bool, -Bool.exists_bool, and_assoc, peta, tl_inj, ex_1, ex_2, ex_3, ex_4, ex_5, ex_6, ex_7, ex_8, ex_9, ey_2, ey_3, ey_4, ey_5, ey_6, ey_7, ey_8, ey_9]
      have k1 := (SmT.kids ht).len
      have hl0 := valL_len m (b.take 0)
      refine ⟨⟨0, by simp, rfl, by simp [valL]⟩, fun k hk => ⟨fun hlt => ?_, fun hge => ?_⟩⟩
      · have hv := valL_step m hlt
        have hl1 := valL_len m (b.take k)
        rw [List.length_take] at hl1
        refine ⟨hlt, hs, hg, (SmT.kids ht).mem (getD_mem dT hlt), by have := manyL_kids (getD_mem dT hlt); omega, by omega, k + 1, hlt, by omega, wrap_small (by omega) (by omega), by rw [hv]; simp, ?_⟩
        rw [hv]; exact rats_push
      · rw [List.take_of_length_le (by omega), valT_mk]
        obtain ⟨_, s1, s2⟩ := search_look hs (r := (a, valL m b, 0, 0)) (valL_ok hs b)
        dsimp only at s1 s2
        refine ⟨hg, by rw [valL_len]; omega, fun h => ?_, fun h => ?_⟩
        · rw [s2 h]; exact ⟨rfl, rfl⟩
        · obtain ⟨s3, s4⟩ := s1 h
          rw [s4]; exact ⟨s3, rfl, rfl⟩)
theorem k_val : SoundC Tryz.prog K_val.1 K_val.2 := SoundC.fam (fun x => manyL x.2.2) fun n => k_value n
theorem k_sModelTerm : SoundC Tryz.prog K_sModelTerm.1 K_sModelTerm.2 := sound_of hm (((CtxOK.nil.and k_lTm).and k_sModelOk).and k_sTermSort) (fun _ => []) (by kernel_rfl) fun (x : Sig × Mdl × TP) hl => (by
  rw [← vc_sModelTerm x]
  obtain ⟨h1, h2, h3⟩ : SmG x.1 ∧ SmM x.2.1 ∧ SmT (.mk x.2.2.1 x.2.2.2) := hl
  obtain ⟨s, m, a, b⟩ := x
  dsimp only at *
  simp [-List.getD_eq_getElem?_getD, -List.mem_cons, -Bool.forall_bool, -Bool.exists_bool, and_assoc, peta, tl_inj, ex_1, ex_2, ex_3, ex_4, ex_5, ex_6, ex_7, ex_8, ex_9, ey_2, ey_3, ey_4, ey_5, ey_6, ey_7, ey_8, ey_9]
  unfold modelTerm
  refine ⟨h1, h3, fun h => ?_, fun h => ⟨h1, h2, fun h4 => ?_, fun h4 => ⟨h2, h3, ?_⟩⟩⟩
  · rw [h]; exact ⟨rfl, rfl, rfl⟩
  · rw [h, h4]; exact ⟨rfl, rfl, rfl⟩
  · rw [h, h4]; exact ⟨rfl, rfl, rfl⟩)
theorem k_iModelTerm : SoundC Tryz.prog K_iModelTerm.1 K_iModelTerm.2 := sound_of hm (((CtxOK.nil.and k_val).and k_iModelOk).and k_iTermSort) (fun _ => []) (by kernel_rfl) fun (x : Sig × Mdl × TP) hl => (by
  rw [← vc_iModelTerm x]
  obtain ⟨h1, h2, h3⟩ : SmG x.1 ∧ SmM x.2.1 ∧ SmT (.mk x.2.2.1 x.2.2.2) := hl
  obtain ⟨s, m, a, b⟩ := x
  dsimp only at *
  simp [-List.getD_eq_getElem?_getD, -List.mem_cons, -Bool.forall_bool, -Bool.exists_bool, and_assoc, peta, tl_inj, ex_1, ex_2, ex_3, ex_4, ex_5, ex_6, ex_7, ex_8, ex_9, ey_2, ey_3, ey_4, ey_5, ey_6, ey_7, ey_8, ey_9]
  unfold modelTerm
  refine ⟨h1, h3, fun h => ?_, fun h => ⟨h1, h2, fun h4 => ?_, fun h4 => ⟨?_, h2, h3, ?_⟩⟩⟩
  · rw [h]; exact ⟨rfl, rfl, rfl⟩
  · rw [h, h4]; exact ⟨rfl, rfl, rfl⟩
  · simp only [modelOk, mRight, Bool.and_eq_true] at h4; exact h4.1.2.1
  · rw [h, h4]; exact ⟨rfl, rfl, rfl⟩)
end Cg

/-
  The library functions' contracts at this program, laid by the kit's own programs (lay-shelf, lay-plain). No condition.
-/
namespace Go.Proofs
open Go.Shelf
def Tryz.lays156_ren : Go.Shelf.Ren := ⟨fun | 156 => 111 | 165 => 118 | 166 => 119 | 169 => 120 | 240 => 121 | 241 => 122 | 276 => 123 | 277 => 124 | n => n, fun | 31 => 88 | 9 => 9 | 3 => 3 | 4 => 4 | 0 => 0 | 20 => 20 | 72 => 135 | 76 => 139 | 70 => 133 | 37 => 22 | 75 => 138 | 127 => 142 | 164 => 143 | 5 => 5 | 80 => 141 | n => n, fun | n => n⟩
theorem Tryz.lays156 : Go.Proofs.Lays.n156 Tryz.prog Tryz.lays156_ren := {
  mixed := by kernel_rfl
  f156 := Tryz.func111.trans (congrArg some (by kernel_rfl))
  f165 := Tryz.func118.trans (congrArg some (by kernel_rfl))
  f166 := Tryz.func119.trans (congrArg some (by kernel_rfl))
  f169 := Tryz.func120.trans (congrArg some (by kernel_rfl))
  f240 := Tryz.func121.trans (congrArg some (by kernel_rfl))
  f241 := Tryz.func122.trans (congrArg some (by kernel_rfl))
  f276 := Tryz.func123.trans (congrArg some (by kernel_rfl))
  f277 := Tryz.func124.trans (congrArg some (by kernel_rfl))
  t0 := Tryz.underlying0
  a0 := Tryz.isAgg0
  z0 := Tryz.sizeOf0
  v0 := Tryz.zeroValue0
  t3 := Tryz.underlying3
  a3 := Tryz.isAgg3
  z3 := Tryz.sizeOf3
  v3 := Tryz.zeroValue3
  t4 := Tryz.underlying4
  a4 := Tryz.isAgg4
  z4 := Tryz.sizeOf4
  v4 := Tryz.zeroValue4
  t9 := Tryz.underlying9
  a9 := Tryz.isAgg9
  z9 := Tryz.sizeOf9
  v9 := Tryz.zeroValue9
  t20 := Tryz.underlying20
  a20 := Tryz.isAgg20
  z20 := Tryz.sizeOf20
  v20 := Tryz.zeroValue20
  t31 := Tryz.underlying88
  a31 := Tryz.isAgg88
  z31 := Tryz.sizeOf88
  v31 := Tryz.zeroValue88
  t37 := Tryz.underlying22
  a37 := Tryz.isAgg22
  z37 := Tryz.sizeOf22
  v37 := Tryz.zeroValue22
  t70 := Tryz.underlying133
  a70 := Tryz.isAgg133
  z70 := Tryz.sizeOf133
  v70 := Tryz.zeroValue133
  t72 := Tryz.underlying135
  a72 := Tryz.isAgg135
  z72 := Tryz.sizeOf135
  v72 := Tryz.zeroValue135
  t75 := Tryz.underlying138
  a75 := Tryz.isAgg138
  z75 := Tryz.sizeOf138
  v75 := Tryz.zeroValue138
  t76 := Tryz.underlying139
  a76 := Tryz.isAgg139
  z76 := Tryz.sizeOf139
  v76 := Tryz.zeroValue139
  t127 := Tryz.underlying142
  a127 := Tryz.isAgg142
  z127 := Tryz.sizeOf142
  v127 := Tryz.zeroValue142
  t164 := Tryz.underlying143
  a164 := Tryz.isAgg143
  z164 := Tryz.sizeOf143
  v164 := Tryz.zeroValue143 }
theorem Tryz.Builder_Extra_156 : Builder.Extra Tryz.prog Tryz.lays156_ren := {
  sizeBuilder := by kernel_rfl
  liesBuilder := by kernel_rfl
  t5 := Tryz.underlying5
  a5 := Tryz.isAgg5
  z5 := Tryz.sizeOf5
  v5 := Tryz.zeroValue5
  infoByte := by kernel_rfl
  cellsByte := by kernel_rfl
  sizeByte := by kernel_rfl
  neB5 := by decide }
open Go.RowKit in
theorem Tryz.strings_Join_none (a : Option Addr) (c : Nat) (sep : ByteArray) (w : World) :
    Calls Tryz.prog 111 #[.slice a 0 c, .string sep] w fun e w' => e = .returned (.string ⟨#[]⟩) ∧ w' = w := Any.strings_Join_none Tryz.lays156 Tryz.Builder_Extra_156 a c sep w
open Go.RowKit in
theorem Tryz.strings_Join (bk o c : Nat) (xs : List ByteArray) (sep : ByteArray) (w : World) (hcells : ∀ (j : Nat) x, xs[j]? = some x → w.cell? ⟨bk, o + j, none⟩ = some (.string x)) (hbk : bk < w.heap.size) (hN : xs.length ≤ 140737488355328) (hcap : xs.length ≤ c) (hlen : (Lib.join (xs.map (·.data.toList)) sep.data.toList).length ≤ 140737488355328) :
    Calls Tryz.prog 111 #[.slice (some ⟨bk, o, none⟩) xs.length c, .string sep] w fun e w' => e = .returned (.string ⟨(Lib.join (xs.map (·.data.toList)) sep.data.toList).toArray⟩) ∧ Below w.heap.size w w' := Any.strings_Join Tryz.lays156 Tryz.Builder_Extra_156 bk o c xs sep w hcells hbk hN hcap hlen
end Go.Proofs

/-
  The library's contracts: joined texts. No condition.
-/
set_option linter.unusedVariables false
set_option linter.unusedSimpArgs false
namespace Pl
open Go
theorem interL_eq (sep : List UInt8) : ∀ xs : List (List UInt8), Go.Lib.join xs sep = interL sep xs
  | [] => rfl
  | [x] => by simp [Go.Lib.join, List.intercalate, interL]
  | x :: y :: r => by
    have := interL_eq sep (y :: r)
    simp only [Go.Lib.join, List.intercalate, List.intersperse_cons_cons, List.flatten_cons] at this ⊢
    rw [interL, ← this]; simp
end Pl
namespace Cg
open Go Go.Proofs Pl
theorem Ext.ofBelow {w w' : World} (h : Go.RowKit.Below w.heap.size w w') : Ext w w' := ⟨h.os, h.tape, h.output, h.size, h.block⟩
theorem k_Join : SoundC Tryz.prog K_Join.1 K_Join.2 := ⟨callable_of (by kernel_rfl), fun x hx S w vals hin hrel => by
  obtain ⟨xs, sep⟩ := x
  obtain ⟨h1, h2⟩ : xs.length ≤ 140737488355328 ∧ (joinS xs sep).size ≤ 140737488355328 := hx
  obtain ⟨y0, r0, rfl, ha, y1, r1, rfl, hb, hc⟩ := hrel
  cases hc
  obtain ⟨a, cap, rfl, hcap, ha⟩ := ha
  have hb : y1 = .string sep := hb
  subst hb
  have hj : (⟨(Go.Lib.join (xs.map (·.data.toList)) sep.data.toList).toArray⟩ : ByteArray) = joinS xs sep := by
    rw [interL_eq]; rfl
  rcases ha with h0 | ⟨b, off, rfl, hS, c, T, fr, hheap, hcells⟩
  · have e : xs = [] := List.length_eq_zero_iff.1 h0
    subst e
    exact (Tryz.strings_Join_none a cap sep w).mono fun e w' ⟨he, hw⟩ => by
      subst hw
      exact ⟨_, S, he, Ext.refl _, fun _ h => h, fun _ h => .inl h, hin, rfl⟩
  · refine (Tryz.strings_Join b off cap xs sep w (fun j x hj => ?_) (hin b hS) h1 hcap (by
      have : (joinS xs sep).size = (Go.Lib.join (xs.map (·.data.toList)) sep.data.toList).length := by rw [← hj]; simp [ByteArray.size]
      omega)).mono fun e w' ⟨he, hw⟩ => ?_
    · obtain ⟨hlt, e⟩ := List.getElem?_eq_some_iff.1 hj
      obtain ⟨y, h3, h4⟩ := hcells j hlt 0 (by decide)
      have h4' : RelI S w (.v (.string (xs.getD j ByteArray.empty))) y := h4
      rw [RelI] at h4'
      have h5 : y = .string (xs.getD j ByteArray.empty) := h4'.1
      rw [h5] at h3
      simp only [Nat.mul_one, Nat.add_zero] at h3
      simp only [World.cell?, hheap, h3]
      simp [← e, hlt]
    · rw [hj] at he
      exact ⟨_, S, he, Ext.ofBelow hw, fun _ h => h, fun _ h => .inl h, fun b hb => Nat.lt_of_lt_of_le (hin b hb) hw.size, rfl⟩⟩
end Cg

/-
  The codes' contracts: valid atoms. No condition.
-/
set_option linter.unusedVariables false
set_option linter.unusedSimpArgs false
set_option maxRecDepth 100000
set_option maxHeartbeats 1000000
namespace Pl
open Go Cg
theorem textBs_map : ∀ l : List Tm, textBs l = l.map textB
  | [] => rfl
  | t :: ts => by simp only [textBs, List.map_cons, textBs_map ts]
theorem interL_len (sep : List UInt8) (h1 : sep.length = 1) : ∀ ts : List (List UInt8), (interL sep ts).length ≤ sumN List.length ts + ts.length - 1
  | [] => by simp [interL]
  | [x] => by simp [interL, sumN]
  | x :: y :: r => by
    have := interL_len sep h1 (y :: r)
    simp only [interL, List.length_append, sumN, List.length_cons] at this ⊢
    omega
theorem textB_mk (v : ByteArray) (ks : List Tm) : textB (.mk v ks) = if ks = [] then bl' v else spellB (bl' v) (textBs ks) ++ [41] := by
  rw [textB]
  cases ks with
  | nil => rfl
  | cons k r => simp [spellB, textBs]
mutual
theorem textB_len : ∀ t : Tm, (textB t).length ≤ 2 * costT t
  | .mk v ks => by
    have h := textBs_len ks
    have hl := interL_len [44] rfl (textBs ks)
    have hm : (textBs ks).length = ks.length := by rw [textBs_map]; simp
    rw [textB_mk]
    rw [costT]
    have e : (bl' v).length = v.size := rfl
    by_cases h0 : ks = []
    · rw [if_pos h0]; omega
    · rw [if_neg h0]
      have hp : 0 < ks.length := by cases ks with
        | nil => exact absurd rfl h0
        | cons _ _ => simp
      have hq : (textBs ks).isEmpty = false := by cases hh : textBs ks with
        | nil => rw [hh] at hm; simp at hm; omega
        | cons _ _ => rfl
      unfold spellB
      rw [hq]
      simp only [Bool.false_eq_true, if_false, List.length_append, List.length_singleton]
      omega
theorem textBs_len : ∀ l : List Tm, sumN List.length (textBs l) ≤ 2 * costTs l
  | [] => by simp [textBs, sumN]
  | t :: ts => by
    have h1 := textB_len t
    have h2 := textBs_len ts
    simp only [textBs, sumN, costTs]
    omega
end
theorem textL_join (l : List Tm) : joinS (textL l) ⟨#[44]⟩ = mkB (interL [44] (textBs l)) := by
  unfold joinS textL
  rw [textBs_map, List.map_map]
  rfl
@[simp] theorem mkB_list (l : List UInt8) : (mkB l).data.toList = l := rfl
@[simp] theorem mkB_size (l : List UInt8) : (mkB l).size = l.length := rfl
end Pl
namespace Cg
open Go Go.Proofs Pl
theorem k_termText (n : Nat) : SoundC Tryz.prog (K_termText n).1 (K_termText n).2 := by
  induction n with
  | zero => exact sound_of hm CtxOK.nil (fun _ => []) (by kernel_rfl) fun x h => absurd h.2 (Nat.not_lt_zero _)
  | succ n ih => exact sound_of hm ((CtxOK.nil.and k_Join).and (K := K_termText n) ih) (fun x => A_termText x.1 x.2) (by kernel_rfl) fun (x : TP) hl => (by
      have ht : SmT (.mk x.1 x.2) := hl.1
      have hn : manyL x.2 < n + 1 := hl.2
      clear hl
      rw [← vc_termText n x]
      obtain ⟨a, b⟩ := x
      dsimp only at *
      simp [-List.getD_eq_getElem?_getD, -List.mem_cons, -Bool.forall_bool, -Bool.exists_bool, and_assoc, peta, tl_inj, ex_1, ex_2, ex_3, ex_4, ex_5, ex_6, ex_7, ex_8, ex_9, ey_2, ey_3, ey_4, ey_5, ey_6, ey_7, ey_8, ey_9]
      have k1 := (SmT.kids ht).len
      have hc : a.size + b.length + costTs b ≤ 1048576 := by have h : costT (.mk a b) ≤ 1048576 := ht; rw [costT] at h; exact h
      have hll : ∀ k, (textL (b.take k)).length ≤ b.length := fun k => by unfold textL; simp; omega
      refine ⟨fun h0 => ?_, fun h0 => ⟨⟨0, by simp, h0, rfl, rfl, rfl⟩, fun k hk _ => ⟨fun hlt => ?_, fun hge => ?_⟩⟩⟩
      · show a = mkB _
        rw [textB_mk, if_pos h0]; rfl
      · have hs1 : textL (b.take (k + 1)) = textL (b.take k) ++ [textT (b.getD k dT)] := by
          unfold textL; rw [take_getD dT hlt]; simp
        have h1 := hll k
        refine ⟨hlt, (SmT.kids ht).mem (getD_mem dT hlt), by have := manyL_kids (getD_mem dT hlt); omega, by omega, k + 1, hlt, h0, by omega, by rw [hs1]; simp, wrap_small (by omega) (by omega), ?_⟩
        rw [hs1]; exact strs_push
      · rw [List.take_of_length_le (by omega), textL_join]
        have hb : (bl' a).length = a.size := rfl
        have hsum := textBs_len b
        have hl := interL_len [44] rfl (textBs b)
        have hm : (textBs b).length = b.length := by rw [textBs_map]; simp
        have hlb : (textL b).length = b.length := by unfold textL; simp
        have sz : ∀ l : List UInt8, (ByteArray.mk ⟨l⟩).size = l.length := fun l => rfl
        have ha : a.data.toList.length = a.size := rfl
        simp only [mkB_list, mkB_size, sz, List.length_append, List.length_cons, List.length_nil]
        refine ⟨by show (a.size : Int) + 1 ≤ _; omega, by omega, by omega, by omega, by omega, ?_⟩
        show mkB _ = mkB _
        rw [textB_mk, if_neg h0]
        have hq : (textBs b).isEmpty = false := by cases hh : textBs b with
          | nil => rw [hh] at hm; simp at hm; exact absurd (List.length_eq_zero_iff.1 hm.symm) h0
          | cons _ _ => rfl
        unfold spellB
        rw [hq]
        simp [bl'])
theorem k_tText : SoundC Tryz.prog K_tText.1 K_tText.2 := SoundC.fam (fun x => manyL x.2) fun n => k_termText n
theorem k_isNone : SoundC Tryz.prog K_isNone.1 K_isNone.2 := sound_of hm CtxOK.nil (fun _ => []) (by kernel_rfl) fun (x : TP) hl => (by
  rw [← vc_isNone x]
  obtain ⟨a, b⟩ := x
  dsimp only at *
  simp [-List.getD_eq_getElem?_getD, -List.mem_cons, -Bool.forall_bool, -Bool.exists_bool, and_assoc, peta, tl_inj, ex_1, ex_2, ex_3, ex_4, ex_5, ex_6, ex_7, ex_8, ex_9, ey_2, ey_3, ey_4, ey_5, ey_6, ey_7, ey_8, ey_9]
  unfold noneT
  have e : a.toList = [] ↔ a = ByteArray.empty := by
    rw [← tl_inj (b := ByteArray.empty)]
    have : ByteArray.empty.toList = [] := by rw [ByteArray.toList_eq]; rfl
    rw [this]
  refine ⟨fun h => ?_, fun h => ?_⟩
  · rw [decide_eq_true (e.1 h), Bool.true_and, Bool.beq_eq_decide_eq]
    congr 1
    simp only [eq_iff_iff, List.length_eq_zero_iff, Int.natCast_eq_zero]
  · rw [decide_eq_false (fun h2 => h (e.2 h2))]; rfl)
theorem num_step {nums : List Tm} {times : List Int} {k : Nat} (h1 : k < nums.length) (h2 : k < times.length) (he : numOk none nums times = numOk (prevN nums k) (nums.drop k) (times.drop k)) :
    (right (nums.getD k dT) = false → numOk none nums times = false) ∧ (timeOk (times.getD k 0) = false → numOk none nums times = false) ∧ (above (prevN nums k) (nums.getD k dT) = false → numOk none nums times = false) ∧
    (right (nums.getD k dT) = true → timeOk (times.getD k 0) = true → above (prevN nums k) (nums.getD k dT) = true → numOk none nums times = numOk (prevN nums (k + 1)) (nums.drop (k + 1)) (times.drop (k + 1))) := by
  rw [drop_get dT h1, drop_get 0 h2] at he
  simp only [numOk] at he
  refine ⟨fun h => by rw [he, h]; rfl, fun h => by rw [he, h]; simp, fun h => by rw [he, h]; simp, fun a1 a2 a3 => ?_⟩
  rw [he, a1, a2, a3]
  simp [prevN, -List.getD_eq_getElem?_getD]
theorem num_end {p : Option Tm} {nums : List Tm} {times : List Int} {k : Nat} (h1 : nums.length ≤ k) : numOk p (nums.drop k) (times.drop k) = true := by
  rw [drop_end (by omega)]; cases times.drop k <;> rfl
theorem head_iff (kind : Int) (a b : TP) (nums : List Tm) (times : List Int) (bound : Int) (strict : Bool) : sumHead (kind, a, b, nums, times, bound, strict) = true ↔ noneT a = true ∧ noneT b = true ∧ nums.length = times.length ∧ 1 ≤ nums.length ∧ nums.length ≤ 4 ∧ -1000 ≤ bound ∧ bound ≤ 1000 := by
  simp only [sumHead, Bool.and_eq_true, decide_eq_true_eq, and_assoc]
theorem above_prev {nums : List Tm} {k : Nat} (h : 0 < k) : above (prevN nums k) (nums.getD k dT) = Op.bytesLess (textT (nums.getD (k - 1) dT)).toList (textT (nums.getD k dT)).toList := by
  unfold prevN; rw [if_neg (by omega)]; rfl
theorem above_none {nums : List Tm} {k : Nat} (h : k = 0) : above (prevN nums k) (nums.getD k dT) = true := by
  unfold prevN; rw [if_pos h]; rfl
theorem timeOk_iff {n : Int} : timeOk n = true ↔ n ≠ 0 ∧ -50 ≤ n ∧ n ≤ 50 := by
  simp only [timeOk, Bool.and_eq_true, decide_eq_true_eq, and_assoc]
theorem timeOk_no {n : Int} (h : ¬ (n ≠ 0 ∧ -50 ≤ n ∧ n ≤ 50)) : timeOk n = false := by
  cases e : timeOk n with
  | false => rfl
  | true => exact absurd (timeOk_iff.1 e) h

theorem k_Atomok : SoundC Tryz.prog K_Atomok.1 K_Atomok.2 := sound_of hm ((((CtxOK.nil.and k_tText).and k_within).and k_isNone).and k_isTerm) (fun x => A_Atomok x) (by kernel_rfl) fun (x : Atm) hl => (by
  have hs : SmA x := hl
  clear hl
  rw [← vc_Atomok x]
  obtain ⟨kind, ⟨a, b⟩, ⟨c, d⟩, nums, times, bound, strict⟩ := x
  dsimp only at *
  simp [-List.getD_eq_getElem?_getD, -List.mem_cons, -Bool.forall_bool, -Bool.exists_bool, and_assoc, peta, tl_inj, ex_1, ex_2, ex_3, ex_4, ex_5, ex_6, ex_7, ex_8, ex_9, ey_2, ey_3, ey_4, ey_5, ey_6, ey_7, ey_8, ey_9]
  obtain ⟨q1, q2, q3, q4⟩ : SmT (.mk a b) ∧ SmT (.mk c d) ∧ SmTs nums ∧ times.length ≤ 1048576 := SmA.parts hs
  have q5 := q3.len
  have hd := head_iff kind (a, b) (c, d) nums times bound strict
  have e1 : ¬ kind = 2 → atomRight (kind, (a, b), (c, d), nums, times, bound, strict) = (decide (kind = 1) && (right (.mk a b) && right (.mk c d) && decide (nums = []) && decide (times = []) && decide (bound = 0) && !strict)) := fun h => by unfold atomRight; rw [if_neg h]; rfl
  have e2 : kind = 2 → atomRight (kind, (a, b), (c, d), nums, times, bound, strict) = (sumHead (kind, (a, b), (c, d), nums, times, bound, strict) && numOk none nums times) := fun h => by unfold atomRight; rw [if_pos h]; rfl
  generalize hX : ((kind, (a, b), (c, d), nums, times, bound, strict) : Atm) = X at *
  clear hs
  refine ⟨fun g => ?_, fun g => ⟨fun g' => ?_, fun g' => by rw [e1 g', decide_eq_false g]; simp⟩⟩
  · have h : ¬ kind = 2 := by omega
    refine ⟨q1, fun g1 => ⟨q2, fun g2 => ⟨fun g3 => ⟨fun g4 => ⟨fun g5 => ?_, fun g5 => ?_⟩, fun g4 => ?_⟩, fun g3 => ?_⟩, fun g2 => ?_⟩, fun g1 => ?_⟩
    · rw [e1 h, g1, g2, decide_eq_true g, decide_eq_true g3, decide_eq_true g4, decide_eq_true g5]; simp
    · rw [e1 h, decide_eq_false g5]; simp
    · rw [e1 h, decide_eq_false g4]; simp
    · rw [e1 h, decide_eq_false g3]; simp
    · rw [e1 h, g2]; simp
    · rw [e1 h, g1]; simp
  · have eN := e2 g'
    have noH : (sumHead X = true → False) → atomRight X = false := fun h => by
      rw [eN]
      cases e : sumHead X with
      | false => rfl
      | true => exact (h e).elim
    have noN : numOk none nums times = false → atomRight X = false := fun h => by rw [eN, h]; simp
    have win : ∀ {x lo hi : Int}, withinI x lo hi = false ↔ ¬ (lo ≤ x ∧ x ≤ hi) := fun {x lo hi} => by
      simp only [withinI, Bool.and_eq_false_iff, decide_eq_false_iff_not]; omega
    have wiy : ∀ {x lo hi : Int}, withinI x lo hi = true ↔ (lo ≤ x ∧ x ≤ hi) := fun {x lo hi} => by
      simp only [withinI, Bool.and_eq_true, decide_eq_true_eq]
    refine ⟨fun g1 => noH fun h => (by rw [(hd.1 h).1] at g1; cases g1), fun g1 => ⟨fun g2 => noH fun h => (by rw [(hd.1 h).2.1] at g2; cases g2), fun g2 => ⟨fun g3 => noH fun h => (by have := hd.1 h; have := win.1 g3; omega), fun g3 => ⟨fun g4 => noH fun h => (by have := hd.1 h; omega), fun g4 => ⟨fun g5 => noH fun h => (by have := hd.1 h; have := win.1 g5; omega), fun g5 => ?_⟩⟩⟩⟩⟩
    have g3' := wiy.1 g3
    have g5' := wiy.1 g5
    have hh : sumHead X = true := hd.2 ⟨g1, g2, by omega, by omega, by omega, g5'.1, g5'.2⟩
    refine ⟨g', hh, ⟨0, by simp, by simp [prevN], rfl⟩, fun k _ _ hk he => ⟨fun hlt => ?_, fun hge => ?_⟩⟩
    · obtain ⟨f1, f2, f3, f4⟩ := num_step hlt (by omega) he
      refine ⟨hlt, q3.mem (getD_mem dT hlt), fun h => noN (f1 h), fun r1 => ⟨by omega, fun h => noN (f2 (timeOk_no (by have := win.1 h; omega))), fun r2 => ⟨by omega, fun h => noN (f2 (timeOk_no (by omega))), fun r3 => ⟨fun hp => ?_, fun hz => ⟨g', hh, k + 1, hlt, f4 r1 (timeOk_iff.2 ⟨r3, wiy.1 r2⟩) (above_none hz), by omega, wrap_small (by omega) (by omega)⟩⟩⟩⟩⟩
      rw [wrap_small (x := (k : Int) - 1) (by omega) (by omega)]
      have e : ((k : Int) - 1).toNat = k - 1 := by omega
      rw [e]
      have hab := above_prev (nums := nums) hp
      exact ⟨by omega, by omega, by omega, q3.mem (getD_mem dT (by omega)), q3.mem (getD_mem dT hlt), fun h => noN (f3 (by rw [hab]; exact h)), fun h => ⟨g', hh, k + 1, hlt, f4 r1 (timeOk_iff.2 ⟨r3, wiy.1 r2⟩) (by rw [hab]; exact h), by omega, wrap_small (by omega) (by omega)⟩⟩
    · rw [eN, hh, he, num_end hge]; rfl)
theorem k_isNumber : SoundC Tryz.prog K_isNumber.1 K_isNumber.2 := sound_of hm (CtxOK.nil.and k_iTermSort) (fun _ => []) (by kernel_rfl) fun (x : Sig × TP) hl => (by
  have hg : SmG x.1 := hl.1
  have ht : SmT (.mk x.2.1 x.2.2) := hl.2
  clear hl
  rw [← vc_isNumber x]
  obtain ⟨s, a, b⟩ := x
  dsimp only at *
  simp [-List.getD_eq_getElem?_getD, -List.mem_cons, -Bool.forall_bool, -Bool.exists_bool, and_assoc, peta, tl_inj, ex_1, ex_2, ex_3, ex_4, ex_5, ex_6, ex_7, ex_8, ex_9, ey_2, ey_3, ey_4, ey_5, ey_6, ey_7, ey_8, ey_9]
  unfold isNum
  exact ⟨hg, ht, fun h => by rw [h, Bool.true_and, Bool.beq_eq_decide_eq], fun h => by rw [h]; rfl⟩)
theorem k_AtomOk1 : SoundC Tryz.prog K_AtomOk1.1 K_AtomOk1.2 := sound_of hm (CtxOK.nil.and k_isNumber) (fun _ => []) (by kernel_rfl) fun (x : TP × Sig) hl => (by
  have hg : SmG x.2 := hl.1
  have ht : SmT (.mk x.1.1 x.1.2) := hl.2
  clear hl
  rw [← vc_AtomOk1 x]
  obtain ⟨⟨a, b⟩, s⟩ := x
  dsimp only at *
  simp [-List.getD_eq_getElem?_getD, -List.mem_cons, -Bool.forall_bool, -Bool.exists_bool, and_assoc, peta, tl_inj, ex_1, ex_2, ex_3, ex_4, ex_5, ex_6, ex_7, ex_8, ex_9, ey_2, ey_3, ey_4, ey_5, ey_6, ey_7, ey_8, ey_9]
  exact ⟨hg, ht⟩)
theorem k_IndexTerm : SoundC Tryz.prog K_IndexTerm.1 K_IndexTerm.2 := sound_of hm (CtxOK.nil.and k_AtomOk1) (fun x => A_IndexTerm x.1 x.2) (by kernel_rfl) fun (x : List Tm × Sig) hl => (by
  have hg : SmG x.2 := hl.2
  have ht : SmTs x.1 := hl.1
  clear hl
  rw [← vc_IndexTerm x]
  obtain ⟨l, s⟩ := x
  dsimp only at *
  simp [-List.getD_eq_getElem?_getD, -List.mem_cons, -Bool.forall_bool, -Bool.exists_bool, and_assoc, peta, tl_inj, ex_1, ex_2, ex_3, ex_4, ex_5, ex_6, ex_7, ex_8, ex_9, ey_2, ey_3, ey_4, ey_5, ey_6, ey_7, ey_8, ey_9]
  have hlen := ht.len
  exact ⟨⟨0, by simp, idx_init _ _, rfl⟩, fun k hk he => ⟨fun hlt => ⟨hlt, hg, ht.mem (getD_mem dT hlt), fun h => (idx_step dT _ hlt he).1 (by simp [h, -List.getD_eq_getElem?_getD]), fun h => ⟨k + 1, hlt, (idx_step dT _ hlt he).2 (by simp [h, -List.getD_eq_getElem?_getD]), by omega, wrap_small (by omega) (by omega)⟩⟩, fun hge => idx_end _ hge he⟩⟩)
theorem k_ContainsTerm : SoundC Tryz.prog K_ContainsTerm.1 K_ContainsTerm.2 := sound_of hm (CtxOK.nil.and k_IndexTerm) (fun _ => []) (by kernel_rfl) fun (x : List Tm × Sig) hl => (by
  have hg : SmG x.2 := hl.2
  have ht : SmTs x.1 := hl.1
  clear hl
  rw [← vc_ContainsTerm x]
  obtain ⟨l, s⟩ := x
  dsimp only at *
  simp only [idx_any]
  simp [-List.getD_eq_getElem?_getD, -List.mem_cons, -Bool.forall_bool, -Bool.exists_bool, and_assoc, peta, tl_inj, ex_1, ex_2, ex_3, ex_4, ex_5, ex_6, ex_7, ex_8, ex_9, ey_2, ey_3, ey_4, ey_5, ey_6, ey_7, ey_8, ey_9]
  exact ⟨ht, hg⟩)
theorem k_Eqsorted : SoundC Tryz.prog K_Eqsorted.1 K_Eqsorted.2 := sound_of hm (CtxOK.nil.and k_iTermSort) (fun _ => []) (by kernel_rfl) fun (x : TP × TP × Sig) hl => (by
  obtain ⟨h1, h2, h3⟩ : SmT (.mk x.1.1 x.1.2) ∧ SmT (.mk x.2.1.1 x.2.1.2) ∧ SmG x.2.2 := hl
  rw [← vc_Eqsorted x]
  obtain ⟨⟨a, b⟩, ⟨c, d⟩, s⟩ := x
  dsimp only at *
  simp [-List.getD_eq_getElem?_getD, -List.mem_cons, -Bool.forall_bool, -Bool.exists_bool, and_assoc, peta, tl_inj, ex_1, ex_2, ex_3, ex_4, ex_5, ex_6, ex_7, ex_8, ex_9, ey_2, ey_3, ey_4, ey_5, ey_6, ey_7, ey_8, ey_9]
  unfold eqSorted
  exact ⟨h3, h1, h3, h2, fun g1 => ⟨fun g2 => by rw [g1, g2, Bool.beq_eq_decide_eq]; rfl, fun g2 => by rw [g2]; simp⟩, fun g1 => by rw [g1]; rfl⟩)
theorem k_iAtomOk : SoundC Tryz.prog K_iAtomOk.1 K_iAtomOk.2 := sound_of hm ((((CtxOK.nil.and k_ContainsTerm).and k_Eqsorted).and k_Atomok).and k_iSigOk) (fun _ => []) (by kernel_rfl) fun (x : Sig × Atm) hl => (by
  have hg : SmG x.1 := hl.1
  have hs : SmA x.2 := hl.2
  clear hl
  rw [← vc_iAtomOk x]
  obtain ⟨s, kind, ⟨a, b⟩, ⟨c, d⟩, nums, times, bound, strict⟩ := x
  dsimp only at *
  simp [-List.getD_eq_getElem?_getD, -List.mem_cons, -Bool.forall_bool, -Bool.exists_bool, and_assoc, peta, tl_inj, ex_1, ex_2, ex_3, ex_4, ex_5, ex_6, ex_7, ex_8, ex_9, ey_2, ey_3, ey_4, ey_5, ey_6, ey_7, ey_8, ey_9]
  obtain ⟨q1, q2, q3, q4⟩ : SmT (.mk a b) ∧ SmT (.mk c d) ∧ SmTs nums ∧ times.length ≤ 1048576 := SmA.parts hs
  have e0 : atomOk s (kind, (a, b), (c, d), nums, times, bound, strict) = (sigOk s && atomRight (kind, (a, b), (c, d), nums, times, bound, strict) && if kind = 1 then eqSorted s (.mk a b) (.mk c d) else nums.all (isNum s)) := rfl
  generalize hX : ((kind, (a, b), (c, d), nums, times, bound, strict) : Atm) = X at *
  refine ⟨hg, fun h => by rw [e0, h]; rfl, fun h => ⟨hs, fun h2 => by rw [e0, h2]; simp, fun h2 => ⟨fun g => ⟨q1, q2, hg, ?_⟩, fun g => ⟨q3, hg, ?_⟩⟩⟩⟩
  · rw [e0, h, h2, if_pos g]; rfl
  · rw [e0, h, h2, if_neg g, all_any]; simp)
end Cg

/-
  The codes' contracts: the truth of literals in models. No condition.
-/
set_option linter.unusedVariables false
set_option linter.unusedSimpArgs false
set_option maxRecDepth 100000
set_option maxHeartbeats 1000000
namespace Pl
open Go Cg
theorem least_ok {n d : Int} {x : Rt} (h : least n d = some x) : ratOk x = true := by
  unfold least at h
  split at h
  · cases h; assumption
  · cases h
theorem ratAdd_ok {a b x : Rt} (h : ratAdd a b = some x) : ratOk x = true := by
  unfold ratAdd at h
  split at h
  · exact least_ok h
  · cases h
theorem sumS_end {m : Mdl} {s : Rt} {ts : List Tm} {ns : List Int} {k : Nat} (h : ts.length ≤ k) : sumS m s (ts.drop k) (ns.drop k) = (s, true) := by
  rw [drop_end (by omega)]; rw [sumS]; simp
theorem sumS_cons {m : Mdl} {s : Rt} {t : Tm} {ts : List Tm} {n : Int} {ns : List Int} :
    (ratMul (n, 1) (valT m t) = none → sumS m s (t :: ts) (n :: ns) = (s, false)) ∧
    ((ratMul (n, 1) (valT m t)).isSome = true → (ratAdd s (ratV (ratMul (n, 1) (valT m t))) = none → sumS m s (t :: ts) (n :: ns) = ((0, 0), false)) ∧
      ((ratAdd s (ratV (ratMul (n, 1) (valT m t)))).isSome = true → sumS m s (t :: ts) (n :: ns) = sumS m (ratV (ratAdd s (ratV (ratMul (n, 1) (valT m t))))) ts ns)) := by
  rw [sumS]
  cases e1 : ratMul (n, 1) (valT m t) with
  | none => exact ⟨fun _ => rfl, fun h => (by cases h)⟩
  | some x =>
    refine ⟨fun h => (by cases h), fun _ => ?_⟩
    simp only [ratV, Option.getD_some]
    cases e2 : ratAdd s x with
    | none => exact ⟨fun _ => rfl, fun h => by cases h⟩
    | some y => exact ⟨fun h => (by cases h), fun _ => rfl⟩
theorem sumS_step {m : Mdl} {s : Rt} {ts : List Tm} {ns : List Int} {k : Nat} (h1 : k < ts.length) (h2 : k < ns.length) :
    (ratMul (ns.getD k 0, 1) (valT m (ts.getD k dT)) = none → sumS m s (ts.drop k) (ns.drop k) = (s, false)) ∧
    ((ratMul (ns.getD k 0, 1) (valT m (ts.getD k dT))).isSome = true → (ratAdd s (ratV (ratMul (ns.getD k 0, 1) (valT m (ts.getD k dT)))) = none → sumS m s (ts.drop k) (ns.drop k) = ((0, 0), false)) ∧
      ((ratAdd s (ratV (ratMul (ns.getD k 0, 1) (valT m (ts.getD k dT))))).isSome = true → sumS m s (ts.drop k) (ns.drop k) = sumS m (ratV (ratAdd s (ratV (ratMul (ns.getD k 0, 1) (valT m (ts.getD k dT)))))) (ts.drop (k + 1)) (ns.drop (k + 1)))) := by
  rw [drop_get dT h1, drop_get 0 h2]
  exact sumS_cons
theorem ratAdd_okV {a b : Rt} (h : (ratAdd a b).isSome = true) : ratOk (ratV (ratAdd a b)) = true := by
  cases e : ratAdd a b with
  | none => rw [e] at h; cases h
  | some x => exact ratAdd_ok e
theorem plus_cases (s : Rt) (n : Int) (v : Rt) : (plusV s n v = none → ratMul (n, 1) v = none ∨ ((ratMul (n, 1) v).isSome = true ∧ ratAdd s (ratV (ratMul (n, 1) v)) = none)) ∧
    ((plusV s n v).isSome = true → (ratMul (n, 1) v).isSome = true ∧ (ratAdd s (ratV (ratMul (n, 1) v))).isSome = true ∧ plusV s n v = ratAdd s (ratV (ratMul (n, 1) v))) := by
  unfold plusV
  cases ratMul (n, 1) v with
  | none => exact ⟨fun _ => .inl rfl, fun h => by cases h⟩
  | some x => exact ⟨fun h => .inr ⟨rfl, h⟩, fun h => ⟨rfl, h, rfl⟩⟩
theorem rat_beq (p q : Rt) : (p.1 == q.1 && p.2 == q.2) = decide (p = q) := by
  rw [Bool.eq_iff_iff]
  simp only [Bool.and_eq_true, beq_iff_eq, decide_eq_true_eq]
  exact ⟨fun h => Prod.ext h.1 h.2, fun h => by rw [h]; exact ⟨rfl, rfl⟩⟩
theorem ml_no {s : Sig} {m : Mdl} {x : Atm} {no : Bool} (h : modelOk s m = false ∨ atomOk s x = false) : modelLit s m (x, no) = (false, false) := by
  unfold modelLit
  rw [if_pos]
  rcases h with h | h <;> simp [h]
theorem ml_yes {s : Sig} {m : Mdl} {x : Atm} {no : Bool} (h1 : modelOk s m = true) (h2 : atomOk s x = true) : modelLit s m (x, no) = if (atomV m x).2 = true then ((atomV m x).1 != no, true) else (false, false) := by
  unfold modelLit
  rw [if_neg]
  simp [h1, h2]
theorem atomOk_sum {s : Sig} {kind : Int} {a b : TP} {nums : List Tm} {times : List Int} {bound : Int} {strict : Bool} (h : atomOk s (kind, a, b, nums, times, bound, strict) = true) (hk : ¬ kind = 1) : nums.length = times.length ∧ -1000 ≤ bound ∧ bound ≤ 1000 := by
  simp only [atomOk, Bool.and_eq_true] at h
  have hr := h.1.2
  unfold atomRight at hr
  split at hr
  · simp only [sumRight, Bool.and_eq_true] at hr
    obtain ⟨_, _, q1, _, _, q2, q3⟩ := (head_iff kind a b nums times bound strict).1 hr.1
    exact ⟨q1, q2, q3⟩
  · simp only [Bool.and_eq_true, decide_eq_true_eq] at hr
    exact absurd hr.1 hk
theorem modelOk_mL {s : Sig} {m : Mdl} (h : modelOk s m = true) : mL none m = true := by
  simp only [modelOk, mRight, Bool.and_eq_true] at h; exact h.1.2.1
theorem prod_le {p q : Int} (h1 : -1000000000 ≤ p) (h2 : p ≤ 1000000000) (h3 : 1 ≤ q) (h4 : q ≤ 1000000000) : -1000000000000000000 ≤ p * q ∧ p * q ≤ 1000000000000000000 := by
  have u1 : p * q ≤ 1000000000 * q := Int.mul_le_mul_of_nonneg_right h2 (by omega)
  have u2 : -1000000000 * q ≤ p * q := Int.mul_le_mul_of_nonneg_right h1 (by omega)
  omega
theorem prod_le2 {p q : Int} (h1 : -1000000000 ≤ p) (h2 : p ≤ 1000000000) (h3 : -1000000000 ≤ q) (h4 : q ≤ 1000000000) : -1000000000000000000 ≤ p * q ∧ p * q ≤ 1000000000000000000 := by
  have e : (p * q).natAbs ≤ 1000000000 * 1000000000 := by
    rw [Int.natAbs_mul]; exact Nat.mul_le_mul (by omega) (by omega)
  omega
theorem prod_pos {p q : Int} (h1 : 1 ≤ p) (h3 : 1 ≤ q) : 1 ≤ p * q := by
  have := Int.mul_le_mul h1 h3 (by decide) (by omega)
  omega
theorem least_div {n d : Int} (hn : n.natAbs ≤ 2000000000000000000) (h1 : 1 ≤ d) (h2 : d ≤ 1000000000000000000) :
    Nat.gcd n.natAbs d.natAbs ≠ 0 ∧ IntKind.i64.wrap (n.tdiv (Nat.gcd n.natAbs d.natAbs)) = n.tdiv (Nat.gcd n.natAbs d.natAbs) ∧ IntKind.i64.wrap (d.tdiv (Nat.gcd n.natAbs d.natAbs)) = d.tdiv (Nat.gcd n.natAbs d.natAbs) := by
  have hg : Nat.gcd n.natAbs d.natAbs ≠ 0 := fun h => by
    have := Nat.eq_zero_of_gcd_eq_zero_right h
    omega
  have e1 : (n.tdiv (Nat.gcd n.natAbs d.natAbs)).natAbs ≤ n.natAbs := by rw [Int.natAbs_tdiv]; exact Nat.div_le_self _ _
  have e2 : (d.tdiv (Nat.gcd n.natAbs d.natAbs)).natAbs ≤ d.natAbs := by rw [Int.natAbs_tdiv]; exact Nat.div_le_self _ _
  exact ⟨hg, wrap_small (by omega) (by omega), wrap_small (by omega) (by omega)⟩
end Pl
namespace Cg
open Go Go.Proofs Pl
theorem k_l1Least : SoundC Tryz.prog K_l1Least.1 K_l1Least.2 := sound_of hm ((CtxOK.nil.and k_sRatOk).and k_l1Gcd) (fun _ => []) (by kernel_rfl) fun (x : Int × Int) hl => (by
  obtain ⟨h1, h2, h3⟩ : x.1.natAbs ≤ 2000000000000000000 ∧ 1 ≤ x.2 ∧ x.2 ≤ 1000000000000000000 := hl
  rw [← vc_l1Least x]
  obtain ⟨n, d⟩ := x
  dsimp only at *
  obtain ⟨g1, g2, g3⟩ := least_div h1 h2 h3
  have fin : ∃ x_2 : Rt, ((IntKind.i64.wrap (n.tdiv (Nat.gcd n.natAbs d.natAbs)) = x_2.fst ∧ IntKind.i64.wrap (d.tdiv (Nat.gcd n.natAbs d.natAbs)) = x_2.snd ∧ True) ∧ True) ∧ True ∧
      condP (!ratOk x_2) (((0 : Int) = (ratV (least n d)).fst ∧ (0 : Int) = (ratV (least n d)).snd ∧ True) ∧ false = (least n d).isSome ∧ True)
        ((IntKind.i64.wrap (n.tdiv (Nat.gcd n.natAbs d.natAbs)) = (ratV (least n d)).fst ∧ IntKind.i64.wrap (d.tdiv (Nat.gcd n.natAbs d.natAbs)) = (ratV (least n d)).snd ∧ True) ∧ true = (least n d).isSome ∧ True) := by
    refine ⟨(n.tdiv (Nat.gcd n.natAbs d.natAbs), d.tdiv (Nat.gcd n.natAbs d.natAbs)), ⟨⟨g2, g3, trivial⟩, trivial⟩, trivial, ?_⟩
    rw [g2, g3]
    unfold least
    cases e : ratOk (n.tdiv (Nat.gcd n.natAbs d.natAbs), d.tdiv (Nat.gcd n.natAbs d.natAbs)) <;> simp [condP, ratV]
  rw [condP_iff]
  simp only [decide_eq_true_eq, decide_eq_false_iff_not]
  refine ⟨fun hn => ⟨(n.natAbs, d.natAbs), ⟨by rw [wrap_small (by omega) (by omega)]; simp only; omega, by simp only; omega, trivial⟩, ⟨by simp only; omega, by simp only; omega⟩, by simp only; omega, by simp only; omega, fin⟩, fun hn => ⟨(n.natAbs, d.natAbs), ⟨by simp only; omega, by simp only; omega, trivial⟩, ⟨by simp only; omega, by simp only; omega⟩, by simp only; omega, by simp only; omega, fin⟩⟩)
theorem k_ratOf : SoundC Tryz.prog K_ratOf.1 K_ratOf.2 := sound_of hm ((CtxOK.nil.and k_iRatOk).and k_gcd) (fun _ => []) (by kernel_rfl) fun (x : Int × Int) hl => (by
  obtain ⟨h1, h2, h3⟩ : x.1.natAbs ≤ 2000000000000000000 ∧ 1 ≤ x.2 ∧ x.2 ≤ 1000000000000000000 := hl
  rw [← vc_ratOf x]
  obtain ⟨n, d⟩ := x
  dsimp only at *
  obtain ⟨g1, g2, g3⟩ := least_div h1 h2 h3
  rw [condP_iff]
  refine ⟨fun h => ?_, fun _ => ?_⟩
  · simp only [beq_iff_eq] at h; omega
  rw [condP_iff]
  refine ⟨fun h => ?_, fun _ => ?_⟩
  · simp only [decide_eq_true_eq] at h; omega
  refine ⟨(n, d), ⟨rfl, rfl, trivial⟩, ⟨by simp only; omega, by simp only; omega⟩, by simp only; omega, by simp only; omega, (n.tdiv (Nat.gcd n.natAbs d.natAbs), d.tdiv (Nat.gcd n.natAbs d.natAbs)), ⟨⟨g2, g3, trivial⟩, trivial⟩, trivial, ?_⟩
  simp only
  rw [g2, g3]
  unfold least
  cases e : ratOk (n.tdiv (Nat.gcd n.natAbs d.natAbs), d.tdiv (Nat.gcd n.natAbs d.natAbs)) <;> simp [condP, ratV])
theorem k_iRatAdd : SoundC Tryz.prog K_iRatAdd.1 K_iRatAdd.2 := sound_of hm ((CtxOK.nil.and k_ratOf).and k_iRatOk) (fun _ => []) (by kernel_rfl) fun (x : Rt × Rt) hl => (by
  rw [← vc_iRatAdd x]
  obtain ⟨⟨a, b⟩, c, d⟩ := x
  dsimp only at *
  simp [-List.getD_eq_getElem?_getD, -List.mem_cons, -Bool.forall_bool, -Bool.exists_bool, and_assoc, peta, tl_inj, ex_1, ex_2, ex_3, ex_4, ex_5, ex_6, ex_7, ex_8, ex_9, ey_2, ey_3, ey_4, ey_5, ey_6, ey_7, ey_8, ey_9]
  obtain ⟨e1, e2⟩ : (∀ h : ratOk (a, b) = false, ratAdd (a, b) (c, d) = none) ∧ (∀ h : ratOk (c, d) = false, ratAdd (a, b) (c, d) = none) := ⟨fun h => by unfold ratAdd; rw [h]; rfl, fun h => by unfold ratAdd; rw [h]; simp⟩
  refine ⟨fun h => by rw [e1 h]; exact ⟨rfl, rfl, rfl⟩, fun h => ⟨fun h2 => by rw [e2 h2]; exact ⟨rfl, rfl, rfl⟩, fun h2 => ?_⟩⟩
  obtain ⟨a1, a2, a3, a4, _⟩ := ratOk_iff.1 h
  obtain ⟨c1, c2, c3, c4, _⟩ := ratOk_iff.1 h2
  dsimp only at a1 a2 a3 a4 c1 c2 c3 c4
  have p1 := prod_le a1 a2 c3 c4
  have p2 := prod_le c1 c2 a3 a4
  have p3 := prod_le (by omega : -1000000000 ≤ b) a4 c3 c4
  have p4 := prod_pos a3 c3
  have e : ratAdd (a, b) (c, d) = least (a * d + c * b) (b * d) := by unfold ratAdd; rw [h, h2]; rfl
  rw [wrap_small (x := a * d) (by omega) (by omega), wrap_small (x := c * b) (by omega) (by omega), wrap_small (x := b * d) (by omega) (by omega), wrap_small (x := a * d + c * b) (by omega) (by omega), e]
  exact ⟨by omega, by omega, by omega, rfl, rfl, rfl⟩)
theorem k_iRatMul : SoundC Tryz.prog K_iRatMul.1 K_iRatMul.2 := sound_of hm ((CtxOK.nil.and k_ratOf).and k_iRatOk) (fun _ => []) (by kernel_rfl) fun (x : Rt × Rt) hl => (by
  rw [← vc_iRatMul x]
  obtain ⟨⟨a, b⟩, c, d⟩ := x
  dsimp only at *
  simp [-List.getD_eq_getElem?_getD, -List.mem_cons, -Bool.forall_bool, -Bool.exists_bool, and_assoc, peta, tl_inj, ex_1, ex_2, ex_3, ex_4, ex_5, ex_6, ex_7, ex_8, ex_9, ey_2, ey_3, ey_4, ey_5, ey_6, ey_7, ey_8, ey_9]
  obtain ⟨e1, e2⟩ : (∀ h : ratOk (a, b) = false, ratMul (a, b) (c, d) = none) ∧ (∀ h : ratOk (c, d) = false, ratMul (a, b) (c, d) = none) := ⟨fun h => by unfold ratMul; rw [h]; rfl, fun h => by unfold ratMul; rw [h]; simp⟩
  refine ⟨fun h => by rw [e1 h]; exact ⟨rfl, rfl, rfl⟩, fun h => ⟨fun h2 => by rw [e2 h2]; exact ⟨rfl, rfl, rfl⟩, fun h2 => ?_⟩⟩
  obtain ⟨a1, a2, a3, a4, _⟩ := ratOk_iff.1 h
  obtain ⟨c1, c2, c3, c4, _⟩ := ratOk_iff.1 h2
  dsimp only at a1 a2 a3 a4 c1 c2 c3 c4
  have p1 := prod_le2 a1 a2 c1 c2
  have p3 := prod_le (by omega : -1000000000 ≤ b) a4 c3 c4
  have p4 := prod_pos a3 c3
  have e : ratMul (a, b) (c, d) = least (a * c) (b * d) := by unfold ratMul; rw [h, h2]; rfl
  rw [wrap_small (x := a * c) (by omega) (by omega), wrap_small (x := b * d) (by omega) (by omega), e]
  exact ⟨by omega, by omega, by omega, rfl, rfl, rfl⟩)
theorem k_plus : SoundC Tryz.prog K_plus.1 K_plus.2 := sound_of hm (((CtxOK.nil.and k_iRatAdd).and k_iRatMul).and k_whole) (fun _ => []) (by kernel_rfl) fun (x : Rt × Int × Rt) hl => (by
  rw [← vc_plus x]
  obtain ⟨⟨a, b⟩, n, c, d⟩ := x
  dsimp only at *
  simp [-List.getD_eq_getElem?_getD, -List.mem_cons, -Bool.forall_bool, -Bool.exists_bool, and_assoc, peta, tl_inj, ex_1, ex_2, ex_3, ex_4, ex_5, ex_6, ex_7, ex_8, ex_9, ey_2, ey_3, ey_4, ey_5, ey_6, ey_7, ey_8, ey_9]
  unfold plusV
  cases ratMul (n, 1) (c, d) with
  | none => exact ⟨fun _ => ⟨rfl, rfl, rfl⟩, fun h => by cases h⟩
  | some x => exact ⟨fun h => (by cases h), fun _ => ⟨rfl, rfl, rfl⟩⟩)
theorem k_below : SoundC Tryz.prog K_below.1 K_below.2 := sound_of hm ((CtxOK.nil.and k_iRatLess).and k_whole) (fun _ => []) (by kernel_rfl) fun (x : Rt × Int × Bool) hl => (by
  rw [← vc_below x]
  obtain ⟨⟨a, b⟩, n, c⟩ := x
  dsimp only at *
  simp [-List.getD_eq_getElem?_getD, -List.mem_cons, -Bool.forall_bool, -Bool.exists_bool, and_assoc, peta, tl_inj, ex_1, ex_2, ex_3, ex_4, ex_5, ex_6, ex_7, ex_8, ex_9, ey_2, ey_3, ey_4, ey_5, ey_6, ey_7, ey_8, ey_9]
  unfold under
  exact ⟨fun h => by rw [if_pos h], fun h => by rw [h]; simp⟩)
theorem k_atomV : SoundC Tryz.prog K_atomV.1 K_atomV.2 := sound_of hm ((((CtxOK.nil.and k_below).and k_plus).and k_whole).and k_val) (fun x => A_atomV x.1 x.2) (by kernel_rfl) fun (x : Mdl × Atm) hl => (by
  obtain ⟨h0, h1, h2, h3⟩ : mL none x.1 = true ∧ SmM x.1 ∧ SmA x.2 ∧ (¬ x.2.1 = 1 → x.2.2.2.2.1.length = x.2.2.2.2.2.1.length) := hl
  rw [← vc_atomV x]
  obtain ⟨m, kind, ⟨a, b⟩, ⟨c, d⟩, nums, times, bound, strict⟩ := x
  dsimp only at *
  simp [-List.getD_eq_getElem?_getD, -List.mem_cons, -Bool.forall_bool, -Bool.exists_bool, and_assoc, peta, tl_inj, ex_1, ex_2, ex_3, ex_4, ex_5, ex_6, ex_7, ex_8, ex_9, ey_2, ey_3, ey_4, ey_5, ey_6, ey_7, ey_8, ey_9]
  obtain ⟨q1, q2, q3, q4⟩ : SmT (.mk a b) ∧ SmT (.mk c d) ∧ SmTs nums ∧ times.length ≤ 1048576 := SmA.parts h2
  have q5 := q3.len
  have e1 : kind = 1 → atomV m (kind, (a, b), (c, d), nums, times, bound, strict) = (decide (valT m (.mk a b) = valT m (.mk c d)), true) := fun h => by unfold atomV; rw [if_pos h]
  have e2 : ¬ kind = 1 → atomV m (kind, (a, b), (c, d), nums, times, bound, strict) = if (sumS m (0, 1) nums times).2 = true then (under (sumS m (0, 1) nums times).1 bound strict, true) else (false, false) := fun h => by unfold atomV; rw [if_neg h]
  refine ⟨fun h => ⟨h0, h1, q1, h0, h1, q2, by rw [e1 h]; exact rat_beq _ _, by rw [e1 h]⟩, fun h => ⟨h, ⟨0, by simp, ratOk_one, by simp, rfl⟩, fun k u v _ hk hok he => ⟨fun hlt => ?_, fun hge => by rw [e2 h, he, sumS_end hge]; exact ⟨rfl, rfl⟩⟩⟩⟩
  have hl3 := h3 h
  obtain ⟨s1, s2⟩ := sumS_step (m := m) (s := (u, v)) hlt (by omega : k < times.length)
  obtain ⟨p1, p2⟩ := plus_cases (u, v) (times.getD k 0) (valT m (nums.getD k dT))
  refine ⟨hlt, by omega, h0, h1, q3.mem (getD_mem dT hlt), fun g => ?_, fun g => ?_⟩
  · rcases p1 g with g1 | ⟨g1, g2⟩
    · rw [e2 h, he, s1 g1]; exact ⟨rfl, rfl⟩
    · rw [e2 h, he, (s2 g1).1 g2]; exact ⟨rfl, rfl⟩
  · obtain ⟨g1, g2, g3⟩ := p2 g
    rw [g3]
    exact ⟨h, k + 1, hlt, ratAdd_okV g2, by rw [he, (s2 g1).2 g2], by omega, wrap_small (by omega) (by omega)⟩)
theorem k_iModelLit : SoundC Tryz.prog K_iModelLit.1 K_iModelLit.2 := sound_of hm (((CtxOK.nil.and k_atomV).and k_iAtomOk).and k_iModelOk) (fun _ => []) (by kernel_rfl) fun (x : Sig × Mdl × Ltr) hl => (by
  obtain ⟨h1, h2, h3⟩ : SmG x.1 ∧ SmM x.2.1 ∧ SmA x.2.2.1 := hl
  rw [← vc_iModelLit x]
  obtain ⟨s, m, ⟨kind, ⟨a, b⟩, ⟨c, d⟩, nums, times, bound, strict⟩, no⟩ := x
  dsimp only at *
  simp [-List.getD_eq_getElem?_getD, -List.mem_cons, -Bool.forall_bool, -Bool.exists_bool, and_assoc, peta, tl_inj, ex_1, ex_2, ex_3, ex_4, ex_5, ex_6, ex_7, ex_8, ex_9, ey_2, ey_3, ey_4, ey_5, ey_6, ey_7, ey_8, ey_9]
  have hb : ∀ x y : Bool, (x == y) = !(x != y) := by decide
  refine ⟨h1, h2, fun g => by rw [ml_no (.inl g)]; exact ⟨rfl, rfl⟩, fun g => ⟨h1, h3, fun g2 => by rw [ml_no (.inr g2)]; exact ⟨rfl, rfl⟩, fun g2 => ⟨modelOk_mL g, h2, h3, fun hk => (atomOk_sum g2 hk).1, fun hs => ?_, fun hs => ?_⟩⟩⟩
  · rw [ml_yes g g2, hs]; exact ⟨rfl, rfl⟩
  · rw [ml_yes g g2, if_pos hs]; exact ⟨hb _ _, rfl⟩)
end Cg

/-
  The codes' contracts: drawn words and models. No condition.
-/
set_option linter.unusedVariables false
set_option linter.unusedSimpArgs false
set_option maxRecDepth 100000
namespace Cg
open Go Go.Proofs Pl
theorem slit (v : ByteArray) (j : Nat) (hj : j < 1) : [st v].getD j .any = eS v j := by
  have : j = 0 := by omega
  subst this
  rfl
@[simp] theorem strs_lit3 {a b c : ByteArray} {m : List ByteArray} : Is (.lit 3 1 (rowsCell [[st a], [st b], [st c]])) (strs m) ↔ [a, b, c] = m := Is_lits (by decide) EncN.eS [a, b, c] m (fun v => [st v]) slit
@[simp] theorem strs_lit5 {a b c d e : ByteArray} {m : List ByteArray} : Is (.lit 5 1 (rowsCell [[st a], [st b], [st c], [st d], [st e]])) (strs m) ↔ [a, b, c, d, e] = m := Is_lits (by decide) EncN.eS [a, b, c, d, e] m (fun v => [st v]) slit
@[simp] theorem strs_lit4 {a b c d : ByteArray} {m : List ByteArray} : Is (.lit 4 1 (rowsCell [[st a], [st b], [st c], [st d]])) (strs m) ↔ [a, b, c, d] = m := Is_lits (by decide) EncN.eS [a, b, c, d] m (fun v => [st v]) slit
theorem k_of : SoundC Tryz.prog K_of.1 K_of.2 := sound_of hm (CtxOK.nil.and k_pick) (fun _ => []) (by kernel_rfl) fun ((b, p, l) : List Int × Int × List ByteArray) hb => (by
  obtain ⟨h1, h2, h3⟩ : Rd 1099511627776 b p ∧ l ≠ [] ∧ Sz l := hb
  rw [← vc_of b p l]
  simp [-List.getD_eq_getElem?_getD, -List.mem_cons, -Bool.forall_bool, -Bool.exists_bool, and_assoc, peta, tl_inj, ex_1, ex_2, ex_3, ex_4, ex_5, ex_6, ex_7, ex_8, ex_9, ey_2, ey_3, ey_4, ey_5, ey_6, ey_7, ey_8, ey_9]
  have h0 : 0 < l.length := List.length_pos_iff.2 h2
  refine ⟨h1, fun y hy _ => ?_⟩
  obtain ⟨h4, h5⟩ := hy (by omega)
  exact ⟨h4, h5, by omega, getD_mem _ (by omega)⟩)
theorem k_rat : SoundC Tryz.prog K_rat.1 K_rat.2 := sound_of hm (CtxOK.nil.and k_num) (fun _ => []) (by kernel_rfl) fun ((b, p) : List Int × Int) hb => (by
  replace hb : Rd 549755813888 b p := hb
  rw [← vc_rat b p]
  simp [-List.getD_eq_getElem?_getD, -List.mem_cons, -Bool.forall_bool, -Bool.exists_bool, and_assoc, peta, tl_inj, ex_1, ex_2, ex_3, ex_4, ex_5, ex_6, ex_7, ex_8, ex_9, ey_2, ey_3, ey_4, ey_5, ey_6, ey_7, ey_8, ey_9]
  have g3 := hb.2.2.1
  have g4 := hb.2.2.2
  exact ⟨hb.to (by omega) (by omega), fun y _ => ⟨hb.to (by omega) (by omega), fun z _ => by omega⟩⟩)
theorem k_RatOfP : SoundC Tryz.prog K_RatOfP.1 K_RatOfP.2 := sound_of hm ((CtxOK.nil.and k_l1Least).and k_l1Abs) (fun _ => []) (by kernel_rfl) fun ((n, d) : Int × Int) hb => (by
  obtain ⟨h1, h2, h3⟩ : n.natAbs ≤ 1000000000 ∧ 1 ≤ d ∧ d ≤ 1000000000 := hb
  rw [← vc_RatOfP n d]
  simp [-List.getD_eq_getElem?_getD, -List.mem_cons, -Bool.forall_bool, -Bool.exists_bool, and_assoc, peta, tl_inj, ex_1, ex_2, ex_3, ex_4, ex_5, ex_6, ex_7, ex_8, ex_9, ey_2, ey_3, ey_4, ey_5, ey_6, ey_7, ey_8, ey_9]
  have e1 : abs1 n ≤ 1000000000 := by unfold abs1; split <;> (try split) <;> omega
  have e2 : abs1 d ≤ 1000000000 := by unfold abs1; split <;> (try split) <;> omega
  exact ⟨fun h => absurd h (by omega), fun _ => ⟨fun h => absurd h (by omega), fun _ => ⟨fun h => absurd h (by omega), fun _ => ⟨fun h => absurd h (by omega), fun _ => ⟨by omega, h2, by omega⟩⟩⟩⟩⟩)
theorem k_l7Value : SoundC Tryz.prog K_l7Value.1 K_l7Value.2 := sound_of hm (((CtxOK.nil.and k_RatOfP).and k_num).and k_pick) (fun _ => []) (by kernel_rfl) fun ((b, p, s) : List Int × Int × Int) hb => (by
  replace hb : Rd 549755813888 b p := hb
  rw [← vc_l7Value b p s]
  simp [-List.getD_eq_getElem?_getD, -List.mem_cons, -Bool.forall_bool, -Bool.exists_bool, and_assoc, peta, tl_inj, ex_1, ex_2, ex_3, ex_4, ex_5, ex_6, ex_7, ex_8, ex_9, ey_2, ey_3, ey_4, ey_5, ey_6, ey_7, ey_8, ey_9]
  have g3 := hb.2.2.1
  have g4 := hb.2.2.2
  refine ⟨fun _ => ⟨hb.to (by omega) (by omega), fun _ _ _ => by omega⟩, fun _ => ⟨hb.to (by omega) (by omega), fun y hy => ⟨hb.to (by omega) (by omega), fun z hz => ?_⟩⟩⟩
  simp at hy hz
  exact ⟨by omega, by omega, by omega, fun _ => ⟨by omega, by omega⟩, fun _ => ⟨by omega, by omega⟩⟩)
/-- Rows that were written out, one by one. -/
def LitR {α : Type} (k : Nat) (e : α → Nat → AV) (d : α) (rows : List (List AV)) (l : List α) : Prop := rows.length = l.length ∧ ∀ i, i < l.length → ∀ j, j < k → Is ((rows.getD i []).getD j .any) (e (l.getD i d) j)
theorem LitR.nil {α : Type} {k : Nat} {e : α → Nat → AV} {d : α} : LitR k e d [] [] := ⟨rfl, fun i hi => by cases hi⟩
theorem LitR.cons {α : Type} {k : Nat} {e : α → Nat → AV} {d : α} {rows : List (List AV)} {l : List α} (h : LitR k e d rows l) {r : List AV} {v : α} (hr : ∀ j, j < k → Is (r.getD j .any) (e v j)) : LitR k e d (r :: rows) (v :: l) :=
  ⟨by simp [h.1], fun i hi j hj => by
    cases i with
    | zero => exact hr j hj
    | succ i => exact h.2 i (by simpa using hi) j hj⟩
theorem LitR.is {α : Type} {k : Nat} {e : α → Nat → AV} {d : α} {rows : List (List AV)} {l : List α} (h : LitR k e d rows l) : Is (.lit rows.length k (rowsCell rows)) (.sl l.length k fun i j => e (l.getD i d) j) :=
  Is_lit_of h.1 fun i hi j hj => h.2 i hi j hj
theorem rowY {a : ByteArray} {b : AV} {l : List Int} {c : Int} (hb : Is b (ints l)) : ∀ j, j < 3 → Is ([st a, b, i64 c].getD j .any) (eY (a, l, c) j) := Is_rowY hb
theorem ints_l0 {q : Nat} {c : Nat → Nat → AV} : Is (.lit 0 q c) (ints []) := ints_nil.2 rfl
theorem ints_l1 {a : Int} : Is (.lit 1 1 (rowsCell [[i64 a]])) (ints [a]) := ints_lit1.2 rfl
theorem ints_l2 {a b : Int} : Is (.lit 2 1 (rowsCell [[i64 a], [i64 b]])) (ints [a, b]) := ints_lit2.2 rfl
theorem base_small (k : Int) : SgB 5 2 (base k) := by
  unfold base
  split
  · exact ⟨by decide, by simp; decide⟩
  · split
    · exact ⟨by decide, by simp; decide⟩
    · split
      · exact ⟨by decide, by simp; decide⟩
      · split
        · exact ⟨by decide, by simp; decide⟩
        · exact ⟨by decide, by simp⟩
theorem k_l4Base : SoundC Tryz.prog K_l4Base.1 K_l4Base.2 := sound_of hm CtxOK.nil (fun _ => []) (by kernel_rfl) fun (k : Int) hb => (by
  rw [← vc_l4Base k]
  simp [-List.getD_eq_getElem?_getD, -List.mem_cons, -Bool.forall_bool, -Bool.exists_bool, and_assoc, peta, tl_inj, ex_1, ex_2, ex_3, ex_4, ex_5, ex_6, ex_7, ex_8, ex_9, ey_2, ey_3, ey_4, ey_5, ey_6, ey_7, ey_8, ey_9]
  refine ⟨fun h => ?_, fun h0 => ⟨fun h => ?_, fun h1 => ⟨fun h => ?_, fun h2 => ⟨fun h => ?_, fun h3 => ?_⟩⟩⟩⟩
  · unfold base; rw [if_pos h]
    exact (((((LitR.nil.cons (rowY ints_l2)).cons (rowY ints_l1)).cons (rowY ints_l0)).cons (rowY ints_l0)).cons (rowY ints_l0)).is
  · unfold base; rw [if_neg h0, if_pos h]
    exact (((((LitR.nil.cons (rowY ints_l0)).cons (rowY ints_l0)).cons (rowY ints_l1)).cons (rowY ints_l0)).cons (rowY ints_l0)).is
  · unfold base; rw [if_neg h0, if_neg h1, if_pos h]
    exact ((((LitR.nil.cons (rowY ints_l0)).cons (rowY ints_l0)).cons (rowY ints_l0)).cons (rowY ints_l1)).is
  · unfold base; rw [if_neg h0, if_neg h1, if_neg h2, if_pos h]
    exact (((((LitR.nil.cons (rowY ints_l0)).cons (rowY ints_l0)).cons (rowY ints_l2)).cons (rowY ints_l1)).cons (rowY ints_l0)).is
  · unfold base; rw [if_neg h0, if_neg h1, if_neg h2, if_neg h3])
theorem k_l4Sig : SoundC Tryz.prog K_l4Sig.1 K_l4Sig.2 := sound_of hm ((CtxOK.nil.and k_l4Base).and k_num) (fun _ => []) (by kernel_rfl) fun ((b, p) : List Int × Int) hb => (by
  replace hb : Rd 549755813888 b p := hb
  rw [← vc_l4Sig b p]
  simp [-List.getD_eq_getElem?_getD, -List.mem_cons, -Bool.forall_bool, -Bool.exists_bool, and_assoc, peta, tl_inj, ex_1, ex_2, ex_3, ex_4, ex_5, ex_6, ex_7, ex_8, ex_9, ey_2, ey_3, ey_4, ey_5, ey_6, ey_7, ey_8, ey_9]
  exact ⟨hb.to hb.2.2.1 (by have := hb.2.2.2; omega), fun y _ => base_small y⟩)
theorem IsR_store {α : Type} {k : Nat} {e : α → Nat → AV} {d : α} (he : EncN k e) {l : List α} {i0 off : Nat} {v : α} {vs : List AV}
    (h : ∀ j, j < k → Is (bif Nat.ble off j && Nat.blt j (off + vs.length) then vs.getD (j - off) .any else e (l.getD i0 d) j) (e v j)) : IsR k e d (storeC (fun i j => e (l.getD i d) j) i0 off vs) (l.set i0 v) := fun i hi j hj => by
  have hi' : i < l.length := by simpa using hi
  unfold storeC
  by_cases hii : i = i0
  · subst hii
    have e1 : (l.set i v).getD i d = v := by simp [hi']
    rw [e1, beq_iff.2 rfl, Bool.true_and]
    exact h j hj
  · have e1 : (l.set i0 v).getD i d = l.getD i d := by simp only [List.getD_eq_getElem?_getD, List.getElem?_set_ne (Ne.symm hii)]
    have e2 : Nat.beq i i0 = false := by
      cases hb : Nat.beq i i0
      · rfl
      · exact absurd (beq_iff.1 hb) hii
    rw [e1, e2]
    exact he.self _ hj
theorem IsR_storeG {α : Type} {k : Nat} {e : α → Nat → AV} {d : α} {c : Nat → Nat → AV} {l : List α} (hc : IsR k e d c l) {i0 : Nat} {v : α} {vs : List AV} (hl : vs.length = k)
    (h : ∀ j, j < k → Is (vs.getD j .any) (e v j)) : IsR k e d (storeC c i0 0 vs) (l.set i0 v) := fun i hi j hj => by
  have hi' : i < l.length := by simpa using hi
  unfold storeC
  by_cases hii : i = i0
  · subst hii
    have e1 : (l.set i v).getD i d = v := by simp [hi']
    rw [e1, beq_iff.2 rfl, Bool.true_and, ble_iff.2 (Nat.zero_le j), blt_true (by omega), Bool.true_and, cond_true, Nat.sub_zero]
    exact h j hj
  · have e1 : (l.set i0 v).getD i d = l.getD i d := by simp only [List.getD_eq_getElem?_getD, List.getElem?_set_ne (Ne.symm hii)]
    have e2 : Nat.beq i i0 = false := by
      cases hb : Nat.beq i i0
      · rfl
      · exact absurd (beq_iff.1 hb) hii
    rw [e1, e2, Bool.false_and, Bool.false_and, cond_false]
    exact hc i hi' j hj
theorem IsX_v (x : Value) : IsX (.v x) (.v x) := rfl
theorem IsX_eR (x : Rw) (j : Nat) (hj : j < 4) : IsX (eR x j) (eR x j) := by
  match j, hj with
  | 0, _ => exact IsX_v _
  | 1, _ => exact ⟨rfl, rfl, fun i hi j hj => EncN.eQ.self _ hj⟩
  | 2, _ => exact IsX_v _
  | 3, _ => exact IsX_v _
@[simp] theorem xrR_self {l : List Rw} : IsO (xrR l) (xrR l) := ⟨rfl, rfl, fun i hi j hj => IsX_eR _ j hj⟩
theorem mem_set_imp {α : Type} {q : α → Prop} {l : List α} {i : Nat} {v : α} (h : ∀ x ∈ l, q x) (hv : q v) : ∀ x ∈ l.set i v, q x := fun x hx => by
  rcases List.mem_or_eq_of_mem_set hx with e | e
  · exact h x e
  · rw [e]; exact hv
theorem mem_push_imp {α : Type} {q : α → Prop} {l : List α} {v : α} (h : ∀ x ∈ l, q x) (hv : q v) : ∀ x ∈ l ++ [v], q x := fun x hx => by
  rcases List.mem_append.1 hx with e | e
  · exact h x e
  · rw [List.mem_singleton.1 e]; exact hv
theorem _root_.Pl.SgB.mono {n k n' k' : Nat} {s : Pl.Sig} (h : SgB n k s) (h1 : n ≤ n') (h2 : k ≤ k') : SgB n' k' s := ⟨Nat.le_trans h.1 h1, fun x hx => ⟨(h.2 x hx).1, Nat.le_trans (h.2 x hx).2 h2⟩⟩
theorem _root_.Pl.SgB.set {n k : Nat} {s : Pl.Sig} (h : SgB n k s) {i : Nat} {x : Sym} (hx : x.1.size ≤ 10 ∧ x.2.1.length ≤ k) : SgB n k (s.set i x) := ⟨by simpa using h.1, mem_set_imp h.2 hx⟩
theorem _root_.Pl.SgB.push {n k : Nat} {s : Pl.Sig} (h : SgB n k s) {x : Sym} (hn : s.length < n) (hx : x.1.size ≤ 10 ∧ x.2.1.length ≤ k) : SgB n k (s ++ [x]) := ⟨by simp; omega, mem_push_imp h.2 hx⟩
theorem _root_.Pl.MdB.mono {n k n' k' : Nat} {s : Mdl} (h : MdB n k s) (h1 : n ≤ n') (h2 : k ≤ k') : MdB n' k' s := ⟨Nat.le_trans h.1 h1, fun x hx => ⟨(h.2 x hx).1, Nat.le_trans (h.2 x hx).2 h2⟩⟩
theorem _root_.Pl.MdB.set {n k : Nat} {s : Mdl} (h : MdB n k s) {i : Nat} {x : Rw} (hx : x.1.size ≤ 10 ∧ x.2.1.length ≤ k) : MdB n k (s.set i x) := ⟨by simpa using h.1, mem_set_imp h.2 hx⟩
theorem _root_.Pl.MdB.push {n k : Nat} {s : Mdl} (h : MdB n k s) {x : Rw} (hn : s.length < n) (hx : x.1.size ≤ 10 ∧ x.2.1.length ≤ k) : MdB n k (s ++ [x]) := ⟨by simp; omega, mem_push_imp h.2 hx⟩
theorem names4 : ∀ y ∈ [(⟨#[]⟩ : ByteArray), ⟨#[65]⟩, ⟨#[122, 122]⟩], y.size ≤ 10 := by decide
theorem k_l7Some0 (k_l7Any : SoundC Tryz.prog K_l7Any.1 K_l7Any.2) : SoundC Tryz.prog K_l7Some.1 K_l7Some.2 := sound_of hm ((((CtxOK.nil.and k_of).and k_rat).and k_pick).and k_l7Any) (fun _ => []) (by kernel_rfl) fun ((b, p, s) : List Int × Int × Pl.Sig) hb => (by
  obtain ⟨h1, h2⟩ : Rd 68719476736 b p ∧ SgB 5 2 s := hb
  rw [← vc_l7Some b p s]
  simp [-List.getD_eq_getElem?_getD, -List.mem_cons, -Bool.forall_bool, -Bool.exists_bool, and_assoc, peta, tl_inj, ex_1, ex_2, ex_3, ex_4, ex_5, ex_6, ex_7, ex_8, ex_9, ey_2, ey_3, ey_4, ey_5, ey_6, ey_7, ey_8, ey_9]
  have g3 := h1.2.2.1
  have g4 := h1.2.2.2
  refine ⟨h1.to (by omega) (by omega), h2, fun m q hm q1 q2 => ?_⟩
  have hB : MdB 16 3 m := hm.mono (by decide) (by decide)
  obtain ⟨m1, m2⟩ : m.length ≤ 15 ∧ ∀ x ∈ m, x.1.size ≤ 10 ∧ x.2.1.length ≤ 2 := id hm
  refine ⟨fun _ => ⟨hB, by omega, by omega⟩, fun hne => ⟨h1.to (by omega) (by omega), fun y y1 y2 => ⟨fun _ => ⟨hB, by omega, by omega⟩, fun _ => ⟨h1.to (by omega) (by omega), fun k hk _ => ⟨h1.to (by omega) (by omega), fun z z1 z2 => ?_⟩⟩⟩⟩⟩
  have h0 : 0 < m.length := List.length_pos_iff.2 hne
  obtain ⟨k1, k2⟩ := hk (by omega)
  have hkl : k.toNat < m.length := by omega
  have h3 := m2 _ (getD_mem dR hkl)
  have h30 := m2 _ (getD_mem dR h0)
  have hsl : ∀ v : Rw, (m.set k.toNat v).length = m.length := fun v => by simp
  refine ⟨fun _ => ⟨h1.to (by omega) (by omega), fun v w => ?_⟩, fun _ => ⟨fun _ => ?_, fun _ => ⟨fun _ => ?_, fun _ => ⟨fun _ => ⟨h1.to (by omega) (by omega), fun nm hnm => ?_⟩, fun _ => ?_⟩⟩⟩⟩
  · exact ⟨by omega, by omega, by omega, _, hB.set (x := ((m.getD k.toNat dR).1, (m.getD k.toNat dR).2.1, v, w)) ⟨h3.1, Nat.le_trans h3.2 (by decide)⟩, by omega, by omega, Is_sl_of (hsl _).symm (IsR_store EncN.eR fun j hj => by
      match j, hj with
      | 0, _ => exact EncN.eR.self _ (j := 0) (by decide)
      | 1, _ => exact EncN.eR.self _ (j := 1) (by decide)
      | 2, _ => exact Is_i64.2 rfl
      | 3, _ => exact Is_i64.2 rfl)⟩
  · exact ⟨by omega, by omega, by omega, by omega, _, hB.push (x := m.getD k.toNat dR) (by omega) ⟨h3.1, by omega⟩, by omega, by omega, ((Rds.cel EncN.eR m).join (Rds.row (IsR_row EncN.eR (Is_rowR (Is_rats.2 rfl))))).is⟩
  · exact ⟨by omega, by omega, by omega, by omega, by omega, by omega, by omega, _, hB.set (x := ((m.getD k.toNat dR).1, (m.getD k.toNat dR).2.1 ++ [(0, 1)], (m.getD k.toNat dR).2.2)) ⟨h3.1, by dsimp only; rw [List.length_append, List.length_singleton]; omega⟩, by omega, by omega, Is_sl_of (hsl _).symm (IsR_store EncN.eR fun j hj => by
      match j, hj with
      | 0, _ => exact EncN.eR.self _ (j := 0) (by decide)
      | 1, _ => exact ((Rds.cel EncN.eQ (m.getD k.toNat dR).2.1).join (Rds.row (d := dQ) (v := ((0, 1) : Rt)) (r := [i64 0, i64 1]) (IsR_row EncN.eQ fun j hj => by
          match j, hj with
          | 0, _ => exact Is_i64.2 rfl
          | 1, _ => exact Is_i64.2 rfl))).is
      | 2, _ => exact EncN.eR.self _ (j := 2) (by decide)
      | 3, _ => exact EncN.eR.self _ (j := 3) (by decide))⟩
  · exact ⟨by omega, by omega, by omega, _, hB.set (x := (nm, (m.getD k.toNat dR).2)) ⟨names4 nm hnm, Nat.le_trans h3.2 (by decide)⟩, by omega, by omega, Is_sl_of (hsl _).symm (IsR_store EncN.eR fun j hj => by
      match j, hj with
      | 0, _ => exact Is_st.2 rfl
      | 1, _ => exact EncN.eR.self _ (j := 1) (by decide)
      | 2, _ => exact EncN.eR.self _ (j := 2) (by decide)
      | 3, _ => exact EncN.eR.self _ (j := 3) (by decide))⟩
  · refine ⟨by omega, by omega, by omega, by omega, by omega, by omega, by omega, by omega, (m.set k.toNat (m.getD 0 dR)).set 0 (m.getD k.toNat dR), (hB.set ⟨h30.1, by omega⟩).set ⟨h3.1, by omega⟩, by omega, by omega, ?_⟩
    exact Is_sl_of (by simp) (IsR_storeG (IsR_storeG (IsR_cel EncN.eR) rfl (Is_rowR (Is_rats.2 rfl))) rfl (Is_rowR (Is_rats.2 rfl))))
end Cg

/-
  Drawn models that stay as they are. No condition.
-/

/-
  What is left to show of each function's code, printed by a program: Mdf. No condition.
-/
set_option maxRecDepth 100000
set_option linter.unusedVariables false
namespace Cg
open Go Go.Proofs
end Cg

/-
  The codes' contracts: drawn models, the rest, and the law that models are compared exactly. No condition.
-/
set_option linter.unusedVariables false
set_option linter.unusedSimpArgs false
set_option maxRecDepth 100000
namespace Cg
open Go Go.Proofs Pl
theorem sg_sm {n k : Nat} {s : Pl.Sig} (h : SgB n k s) (hn : n ≤ 100 := by decide) (hk : k ≤ 100 := by decide) : costG s ≤ 1048576 := by
  have : sumN costY s ≤ s.length * 110 := sumN_le fun x hx => by have := h.2 x hx; unfold costY; omega
  have h1 := h.1
  have : s.length * 110 ≤ 100 * 110 := Nat.mul_le_mul_right _ (by omega)
  unfold costG; omega
theorem k_l7Any : SoundC Tryz.prog K_l7Any.1 K_l7Any.2 := sound_of hm (((CtxOK.nil.and k_l7PutX).and k_l7Value).and k_num) (fun (b, p, s) => A_l7Any b p s) (by kernel_rfl) fun ((b, p, s) : List Int × Int × Pl.Sig) hb => (by
  obtain ⟨h1, h2⟩ : Rd 137438953472 b p ∧ SgB 5 2 s := hb
  rw [← vc_l7Any b p s]
  simp [-List.getD_eq_getElem?_getD, -List.mem_cons, -Bool.forall_bool, -Bool.exists_bool, and_assoc, peta, tl_inj, ex_1, ex_2, ex_3, ex_4, ex_5, ex_6, ex_7, ex_8, ex_9, ey_2, ey_3, ey_4, ey_5, ey_6, ey_7, ey_8, ey_9]
  obtain ⟨s1, s2⟩ : s.length ≤ 5 ∧ ∀ x ∈ s, x.1.size ≤ 10 ∧ x.2.1.length ≤ 2 := id h2
  have g3 := h1.2.2.1
  have g4 := h1.2.2.2
  refine ⟨⟨0, by omega, [], ⟨Nat.zero_le _, fun x hx => by cases hx⟩, by omega, rfl, rfl, rfl⟩, fun i m q hi hm q1 q2 => ⟨fun hlt => ⟨h1.to (by omega) (by omega), fun y hy => ⟨?_, fun k m q hk1 hk2 hm q3 q4 => ⟨fun hk => ?_, fun hk => ?_⟩⟩⟩, fun hge => ?_⟩⟩
  · simp at hy
    exact ⟨y, by omega, by omega, m, hm.mono (by omega) (Nat.le_refl _), by omega, by omega, rfl, rfl, xrR_self⟩
  · have hN := s2 _ (getD_mem dY hlt)
    have hr1 : Rd 549755813888 b q := h1.to (by omega) (by omega)
    have init : ∀ b3 : Int, q ≤ b3 → b3 ≤ q + 2 → ∃ a_18, a_18 ≤ (s.getD i dY).snd.fst.length ∧ ∃ a_19 : List Rt, a_19.length = a_18 ∧ p ≤ b3 ∧ b3 ≤ p + 100 * (i : Int) + 3 + 30 * (3 - k) + 2 * (a_18 : Int) ∧ (0 : Int) = a_18 ∧ a_19 = [] := fun b3 e1 e2 =>
      ⟨0, by omega, [], rfl, by omega, by omega, rfl, rfl⟩
    have stp : ∀ (j : Nat) (al : List Rt) (u : Int), al.length = j → p ≤ u → u ≤ p + 100 * (i : Int) + 3 + 30 * (3 - k) + 2 * (j : Int) → j < (s.getD i dY).snd.fst.length → ∀ (v w u' : Int), u ≤ u' → u' ≤ u + 2 → (al.length + 1) * 16 ≤ 70368744177664 ∧
        ∃ a_29, a_29 ≤ (s.getD i dY).snd.fst.length ∧ ∃ a_30, a_30.length = a_29 ∧ p ≤ u' ∧ u' ≤ p + 100 * (i : Int) + 3 + 30 * (3 - k) + 2 * (a_29 : Int) ∧ (s.getD i dY).snd.fst.length - a_29 < (s.getD i dY).snd.fst.length - j ∧ IntKind.i64.wrap ((j : Int) + 1) = (a_29 : Int) ∧ al.length + 1 = a_30.length ∧
        IsO (AObj.arr (al.length + 1) 2 (joinC al.length (cQ al) (rowsCell [[i64 v, i64 w]]))) (arQ a_30) := fun j al u e1 e2 e3 e4 v w u' e5 e6 =>
      ⟨by omega, j + 1, by omega, al ++ [(v, w)], by simp; omega, by omega, by omega, by omega, wrap_succ e4 (by omega), by simp, IsO_join EncN.eQ (IsR_row EncN.eQ fun j hj => by
        match j, hj with
        | 0, _ => exact Is_i64.2 rfl
        | 1, _ => exact Is_i64.2 rfl)⟩
    have ext : ∀ (j : Nat) (al : List Rt) (v w u : Int), j ≤ (s.getD i dY).snd.fst.length → al.length = j → p ≤ u → u ≤ p + 100 * (i : Int) + 3 + 30 * (3 - k) + 2 * (j : Int) →
        ∃ a_26 : List Rw, a_26.length ≤ 1000 ∧ (∀ (a : ByteArray) (a_27 : List Rt) (a_28 b : Int), (a, a_27, a_28, b) ∈ a_26 → a_27.length ≤ 1000) ∧ ∃ (a_27 : ByteArray) (a_28 : List Rt), a_28.length ≤ 1000 ∧ m.length = a_26.length ∧ (s.getD i dY).fst = a_27 ∧ al.length = a_28.length ∧ IsO (xrR m) (xrR a_26) ∧ (a_28 = [] ∨ al = a_28) ∧
          ∀ y : List Nat, HPut a_26.length y → ∃ a_30 : Int, 0 ≤ a_30 ∧ a_30 ≤ 3 ∧ ∃ a_31 : Mdl, MdB (3 * i + 3 - a_30.toNat) 2 a_31 ∧ p ≤ u ∧ u ≤ p + 100 * (i : Int) + 1 + 30 * (3 - a_30) ∧ max a_30 0 < k ∧ y.length = a_31.length ∧ IntKind.i64.wrap (k - 1) = a_30 ∧
            IsO (xrR (List.map (fun i => (a_26 ++ [(a_27, a_28, v, w)]).getD i dR) y)) (xrR a_31) := fun j al v w u e1 e2 e3 e4 => by
      obtain ⟨m1, m2⟩ : m.length ≤ 3 * i + 3 - k.toNat ∧ ∀ x ∈ m, x.1.size ≤ 10 ∧ x.2.1.length ≤ 2 := id hm
      refine ⟨m, by omega, fun a b c d h => by have := (m2 _ h).2; dsimp only at this; omega, (s.getD i dY).fst, al, by omega, rfl, rfl, rfl, xrR_self, .inr rfl, fun y hy => ?_⟩
      obtain ⟨y1, y2, y3⟩ := hy
      refine ⟨k - 1, by omega, by omega, List.map (fun i' => (m ++ [((s.getD i dY).fst, al, v, w)]).getD i' dR) y, ⟨by simp; omega, fun x hx => ?_⟩, by omega, by omega, by omega, by simp, wrap_small (by omega) (by omega), xrR_self⟩
      obtain ⟨n, hn, rfl⟩ := List.mem_map.1 hx
      have hn' := y3 n hn
      have : (m ++ [((s.getD i dY).fst, al, v, w)]).getD n dR ∈ m ++ [((s.getD i dY).fst, al, v, w)] := getD_mem dR (by simp; omega)
      rcases List.mem_append.1 this with e | e
      · exact m2 _ e
      · rw [List.mem_singleton.1 e]; exact ⟨hN.1, by dsimp only; omega⟩
    repeat' first
      | exact hlt
      | exact hr1
      | apply And.intro
    all_goals
      intro b3 h3 h4
      repeat' first
        | exact hlt
        | exact init b3 h3 h4
        | apply And.intro
    all_goals
      intro j al v w u e1 e2 e3 e4
      repeat' first
        | exact hlt
        | exact fun e5 => ext j al v w u e1 e2 e3 e4
        | apply And.intro
    all_goals
      intro e5
      repeat' first
        | exact hlt
        | exact e5
        | exact h1.to (by omega) (by omega)
        | exact fun v w u' => stp j al u e2 e3 e4 e5 v w u'
        | apply And.intro
  · obtain rfl : k = 0 := by omega
    exact ⟨i + 1, by omega, m, hm.mono (by simp; omega) (Nat.le_refl _), by omega, by omega, by omega, rfl, wrap_succ hlt (by omega), xrR_self⟩
  · exact ⟨m, hm.mono (by omega) (Nat.le_refl _), by omega, by omega, rfl, xrR_self⟩)
theorem k_l7Some : SoundC Tryz.prog K_l7Some.1 K_l7Some.2 := k_l7Some0 k_l7Any
end Cg

/-
  The codes' contracts: drawn terms, and the law that functions are functional. No condition.
-/
set_option linter.unusedVariables false
set_option linter.unusedSimpArgs false
set_option maxRecDepth 100000
namespace Cg
open Go Go.Proofs Pl
theorem copy_push {ks : List Tm} {k : Nat} (hk : k ≤ ks.length) (hlt : k < ks.length) : IsO (AObj.arr (min k ks.length + 1) 2 (joinC (min k ks.length) (cT (List.take k ks)) (rowsCell [[st (Tree.val (ks.getD k dT)), terms (Tree.kids (ks.getD k dT))]]))) (arT (List.take (k + 1) ks)) := by
  have hlen : (ks.take k).length = k := by simp; omega
  rw [Nat.min_eq_left hk, Pl.take_succ_getD dT hlt]
  have := IsO_join (l := ks.take k) (m := [ks.getD k dT]) (d := dT) EncN.eT (IsR_row EncN.eT (Is_rowK rfl (Is_terms_kidsT.2 rfl)))
  rw [hlen] at this
  exact this
theorem namesT : ∀ y ∈ [(⟨#[]⟩ : ByteArray), ⟨#[65]⟩, ⟨#[97, 98, 99]⟩, ⟨#[102]⟩], y.size ≤ 10 := by decide
theorem LitR.rds {α : Type} {k : Nat} {e : α → Nat → AV} {d : α} {rows : List (List AV)} {l : List α} (h : LitR k e d rows l) : Rds k e d rows.length (rowsCell rows) l := ⟨h.1, fun i hi j hj => h.2 i hi j hj⟩
theorem CB_ge (n : Nat) : 12 ≤ CB n := by cases n <;> (unfold CB; omega)
theorem k_l4Copy : ∀ n, SoundC Tryz.prog (K_l4Copy n).1 (K_l4Copy n).2
  | 0 => ⟨by exact callable_of (by kernel_rfl), fun x hx => absurd hx.2 (Nat.not_lt_zero _)⟩
  | n + 1 => sound_of hm (CtxOK.nil.and (K := K_l4Copy n) (k_l4Copy n)) (fun (x : TP) => A_l4Copy x.1 x.2) (by kernel_rfl) fun (x : TP) hl => (by
    obtain ⟨v, ks⟩ := x
    obtain ⟨h1, h2⟩ : SmT (.mk v ks) ∧ manyL ks < n + 1 := hl
    rw [← vc_l4Copy n v ks]
    simp [-List.getD_eq_getElem?_getD, -List.mem_cons, -Bool.forall_bool, -Bool.exists_bool, and_assoc, peta, tl_inj, ex_1, ex_2, ex_3, ex_4, ex_5, ex_6, ex_7, ex_8, ex_9, ey_2, ey_3, ey_4, ey_5, ey_6, ey_7, ey_8, ey_9]
    refine ⟨⟨0, by omega, rfl, rfl, .inl rfl⟩, fun k hk => ⟨fun hlt => ?_, fun hge => List.take_of_length_le hge⟩⟩
    have ht := getD_mem dT hlt
    have c1 := costT_mem ht
    have c2 := costT_eq (.mk v ks)
    simp only [Tree.val_mk, Tree.kids_mk] at c2
    have m1 := many_mem ht
    have m2 := (ks.getD k dT).many_eq
    exact ⟨hlt, by omega, by omega, by omega, k + 1, hlt, by omega, wrap_succ hlt (by omega), by omega, copy_push hk hlt⟩)
theorem k_lCopy : SoundC Tryz.prog K_lCopy.1 K_lCopy.2 := SoundC.famI (fun (x : TP) => manyL x.2) k_l4Copy
theorem k_l4CopyO : SoundC Tryz.prog K_l4CopyO.1 K_l4CopyO.2 := sound_of hm (CtxOK.nil.and k_lCopy) (fun (x : TP) => A_l4CopyO x.1 x.2) (by kernel_rfl) fun (x : TP) hl => (by
  obtain ⟨v, ks⟩ := x
  replace hl : SmT (.mk v ks) := hl
  rw [← vc_l4CopyO v ks]
  simp [-List.getD_eq_getElem?_getD, -List.mem_cons, -Bool.forall_bool, -Bool.exists_bool, and_assoc, peta, tl_inj, ex_1, ex_2, ex_3, ex_4, ex_5, ex_6, ex_7, ex_8, ex_9, ey_2, ey_3, ey_4, ey_5, ey_6, ey_7, ey_8, ey_9]
  refine ⟨⟨0, by omega, rfl, rfl, .inl rfl⟩, fun k hk => ⟨fun hlt => ?_, fun hge => List.take_of_length_le hge⟩⟩
  have ht := getD_mem dT hlt
  have c1 := costT_mem ht
  have c2 := costT_eq (.mk v ks)
  simp only [Tree.val_mk, Tree.kids_mk] at c2
  exact ⟨hlt, by omega, by omega, k + 1, hlt, by omega, wrap_succ hlt (by omega), by omega, copy_push hk hlt⟩)
theorem k_l4Any : ∀ n, SoundC Tryz.prog (K_l4Any n).1 (K_l4Any n).2
  | 0 => ⟨by exact callable_of (by kernel_rfl), fun x hx => absurd hx.2 (Nat.not_lt_zero _)⟩
  | n + 1 => sound_of hm ((CtxOK.nil.and (K := K_l4Any n) (k_l4Any n)).and k_pick) (fun ((b, p, s, u, d) : AX) => A_l4Any b p s u d) (by kernel_rfl) fun ((b, p, s, u, d) : AX) hl => (by
    obtain ⟨⟨h1, h1', h2, h3⟩, h4⟩ : (Rd 137438953472 b p ∧ p + CB d.toNat ≤ 137438953472 ∧ SgB 5 2 s ∧ d ≤ 4) ∧ d.toNat < n + 1 := hl
    rw [← vc_l4Any n b p s u d]
    simp [-List.getD_eq_getElem?_getD, -List.mem_cons, -Bool.forall_bool, -Bool.exists_bool, and_assoc, peta, tl_inj, ex_1, ex_2, ex_3, ex_4, ex_5, ex_6, ex_7, ex_8, ex_9, ey_2, ey_3, ey_4, ey_5, ey_6, ey_7, ey_8, ey_9]
    have g3 := h1.2.2.1
    have g4 := h1.2.2.2
    obtain ⟨s1, s2⟩ : s.length ≤ 5 ∧ ∀ x ∈ s, x.1.size ≤ 10 ∧ x.2.1.length ≤ 2 := id h2
    have hC := CB_ge d.toNat
    refine ⟨⟨0, by omega, [], Nat.le_refl _, fun x hx => (by cases hx), rfl, rfl, rfl, rfl⟩, fun i ws hi hw hwd => ⟨fun hlt => ?_, fun hge => ⟨fun hnil => ?_, fun hne => ?_⟩⟩⟩
    · have h5 := s2 _ (getD_mem dY hlt)
      have keep : ∃ a_8, a_8 ≤ s.length ∧ ∃ x : List Sym, x.length ≤ a_8 ∧ WdB d x ∧ s.length - a_8 < s.length - i ∧ ws.length = x.length ∧ IntKind.i64.wrap ((i : Int) + 1) = (a_8 : Int) ∧ (x = [] ∨ ws = x) :=
        ⟨i + 1, by omega, ws, by omega, hwd, by omega, rfl, wrap_succ hlt (by omega), .inr rfl⟩
      have push : (d ≤ 1 → (s.getD i dY).2.1 = []) → (ws.length + 1) * 48 ≤ 70368744177664 ∧ ∃ a_8, a_8 ≤ s.length ∧ ∃ x : List Sym, x.length ≤ a_8 ∧ WdB d x ∧ s.length - a_8 < s.length - i ∧ ws.length + 1 = x.length ∧ IntKind.i64.wrap ((i : Int) + 1) = (a_8 : Int) ∧
          IsO (AObj.arr (ws.length + 1) 3 (joinC ws.length (cY ws) (rowsCell [[st (s.getD i dY).fst, ints (s.getD i dY).snd.fst, i64 (s.getD i dY).snd.snd]]))) (arY x) := fun h6 =>
        ⟨by omega, i + 1, by omega, ws ++ [s.getD i dY], by simp; omega, mem_push_imp hwd ⟨h5.1, h5.2, h6⟩, by omega, by simp, wrap_succ hlt (by omega), IsO_join EncN.eY (IsR_row EncN.eY (Is_rowY (Is_ints.2 rfl)))⟩
      exact ⟨hlt, fun he => ⟨fun hd => ⟨hlt, push fun h => absurd h (by omega)⟩, fun hd => ⟨hlt, fun ha => ⟨hlt, push fun _ => ha⟩, fun _ => keep⟩⟩, fun _ => keep⟩
    · refine ⟨⟨#[113]⟩, [], ?_, by omega, rfl, rfl⟩
      show costT (.mk ⟨#[113]⟩ []) ≤ _
      rw [costT_eq]
      simp only [Tree.val_mk, Tree.kids_mk, costTs, List.length_nil]
      have : (⟨#[113]⟩ : ByteArray).size = 1 := rfl
      omega
    · refine ⟨h1.to (by omega) (by omega), fun y hy _ => ?_⟩
      have hw0 : 0 < ws.length := List.length_pos_iff.2 hne
      obtain ⟨y1, y2⟩ := hy (by omega)
      have hyl : y.toNat < ws.length := by omega
      have hwy := hwd _ (getD_mem dY hyl)
      refine ⟨y1, y2, hyl, ⟨(ws.getD y.toNat dY).1, (ws.getD y.toNat dY).2.1, (ws.getD y.toNat dY).2.2, fun x hx => by rw [List.mem_singleton.1 hx]; exact hwy, 0, Nat.zero_le _, [], rfl, Nat.zero_le _, by omega, by simp, rfl, rfl, rfl, rfl, rfl, rfl⟩, fun nm args so j kids q hw1 hj hkl hc q1 q2 => ⟨fun hlt => ?_, fun hge => ?_⟩⟩
      · obtain ⟨a1, a2, a3⟩ := hw1 _ List.mem_cons_self
        dsimp only at a1 a2 a3
        have hd : 2 ≤ d := Classical.byContradiction fun h => by
          have := a3 (by omega)
          rw [this] at hlt; exact absurd hlt (Nat.not_lt_zero _)
        have hdn : d.toNat = (d.toNat - 1) + 1 := by omega
        have hCe : CB d.toNat = 12 + 2 * CB (d.toNat - 1) := by rw [hdn]; rfl
        have hw2 : IntKind.i64.wrap (d - 1) = d - 1 := wrap_small (by omega) (by omega)
        have hdt : (d - 1).toNat = d.toNat - 1 := by omega
        rw [hw2, hdt]
        generalize hCC : CB (d.toNat - 1) = C at *
        have hj2 : (j : Int) * C ≤ C := by
          have : j = 0 ∨ j = 1 := by omega
          rcases this with rfl | rfl <;> simp <;> omega
        have hj3 : ((j + 1 : Nat) : Int) * C = j * C + C := by push_cast; rw [Int.add_mul, Int.one_mul]
        have hcn : (j + 1) * C = j * C + C := Nat.succ_mul j C
        refine ⟨hlt, h1.to (by omega) (by omega), by omega, h2, by omega, by omega, fun nm2 k2 q' ht q3 q4 => ⟨by omega, nm, args, so, hw1, j + 1, hlt, kids ++ [.mk nm2 k2], by simp; omega, ?_, by omega, by rw [hj3]; omega, by omega, wrap_succ hlt (by omega), rfl, rfl, rfl, rfl, by simp, IsO_join EncN.eT (IsR_row EncN.eT (Is_rowT (Is_terms.2 rfl)))⟩⟩
        have ht' : costT (.mk nm2 k2) ≤ C := ht
        rw [costTs_snoc, hcn]
        omega
      · obtain ⟨a1, a2, a3⟩ := hw1 _ List.mem_cons_self
        dsimp only at a1 a2 a3
        have c2 := costT_eq (.mk nm kids)
        simp only [Tree.val_mk, Tree.kids_mk] at c2
        by_cases hd : d ≤ 1
        · have h0 : j = 0 := by have := a3 hd; rw [this] at hj; simpa using hj
          subst h0
          refine ⟨nm, kids, ?_, q1, ?_, rfl, rfl, .inr rfl⟩
          · show costT (.mk nm kids) ≤ _
            simp at hc
            omega
          · simp at q2
            omega
        · have hdn : d.toNat = (d.toNat - 1) + 1 := by omega
          have hCe : CB d.toNat = 12 + 2 * CB (d.toNat - 1) := by rw [hdn]; rfl
          have hj2 : j * CB (d.toNat - 1) ≤ 2 * CB (d.toNat - 1) := Nat.mul_le_mul_right _ (by omega)
          have hj3 : (j : Int) * (CB (d.toNat - 1) : Int) = ((j * CB (d.toNat - 1) : Nat) : Int) := by push_cast; rfl
          rw [hj3] at q2
          generalize hm : j * CB (d.toNat - 1) = M at *
          refine ⟨nm, kids, ?_, q1, ?_, rfl, rfl, .inr rfl⟩
          · show costT (.mk nm kids) ≤ _
            omega
          · omega)
theorem k_lAny : SoundC Tryz.prog K_lAny.1 K_lAny.2 := SoundC.famE (fun (x : AX) => x.2.2.2.2.toNat) k_l4Any
set_option maxHeartbeats 8000000 in
theorem g_l4Some (b : List Int) (p : Int) (s : Pl.Sig) (h1 : Rd 68719476736 b p) (h2 : SgB 5 2 s) : GoalW Tryz.prog [K_pick, K_num, K_of, K_lAny, K_l4CopyO] ([]) K_l4Some.1 K_l4Some.2 (b, p, s) := GoalW.of (vc_l4Some b p s) (by
  simp (maxSteps := 2000000) [-List.getD_eq_getElem?_getD, -List.mem_cons, -Bool.forall_bool, -Bool.exists_bool, and_assoc, peta, tl_inj, ex_1, ex_2, ex_3, ex_4, ex_5, ex_6, ex_7, ex_8, ex_9, ey_2, ey_3, ey_4, ey_5, ey_6, ey_7, ey_8, ey_9]
  have g3 := h1.2.2.1
  have g4 := h1.2.2.2
  refine ⟨h1.to (by omega) (by omega), fun y _ _ => ⟨h1.to (by omega) (by omega), fun d hd => ?_⟩⟩
  have hC : CB d.toNat ≤ 372 ∧ d ≤ 4 := by
    simp at hd
    rcases hd with rfl | rfl | rfl | rfl <;> exact ⟨by decide, by decide⟩
  refine ⟨h1.to (by omega) (by omega), by omega, h2, hC.2, fun a ks q ht q1 q2 => ⟨h1.to (by omega) (by omega), fun z _ _ => ?_⟩⟩
  have ht' : costT (.mk a ks) ≤ CB d.toNat := ht
  have c2 := costT_eq (.mk a ks)
  simp only [Tree.val_mk, Tree.kids_mk] at c2
  have c3 : ∀ (v : ByteArray) (l : List Tm), costT (.mk v l) = v.size + l.length + costTs l := fun v l => by
    have := costT_eq (.mk v l)
    simpa only [Tree.val_mk, Tree.kids_mk] using this
  have h0j : LitR 2 eT dT [[st a, terms ks]] [Tree.mk a ks] := LitR.nil.cons (Is_rowT (Is_terms.2 rfl))
  have h1j := (Rds.cel (d := dT) EncN.eT ks).join h0j.rds
  have h2j := (Rds.cel (d := dT) EncN.eT ks).join (h0j.cons (r := [st a, terms ks]) (v := Tree.mk a ks) (Is_rowT (Is_terms.2 rfl))).rds
  refine ⟨fun _ => ⟨h1.to (by omega) (by omega), fun nm hnm => ⟨?_, by omega, by omega⟩⟩, fun _ => ⟨fun _ => ?_, fun _ => ⟨fun _ => ?_, fun _ => ⟨?_, by omega, by omega⟩⟩⟩⟩
  · have := namesT nm hnm
    show costT (.mk nm ks) ≤ 1500
    rw [c3]; omega
  · refine ⟨a, ks, by omega, rfl, rfl, .inr rfl, by omega, by omega, a, ks ++ [Tree.mk a ks], ?_, by omega, by omega, rfl, h1j.is⟩
    show costT (.mk a (ks ++ [.mk a ks])) ≤ 1500
    rw [c3, costTs_snoc, List.length_append, List.length_singleton]; omega
  · refine ⟨a, ks, by omega, rfl, rfl, .inr rfl, a, ks, by omega, rfl, rfl, .inr rfl, by omega, by omega, a, ks ++ [Tree.mk a ks, Tree.mk a ks], ?_, by omega, by omega, rfl, h2j.is⟩
    show costT (.mk a (ks ++ [.mk a ks, .mk a ks])) ≤ 1500
    have e : ks ++ [.mk a ks, .mk a ks] = (ks ++ [.mk a ks]) ++ [.mk a ks] := by simp
    rw [e, c3, costTs_snoc, costTs_snoc, List.length_append, List.length_append, List.length_singleton]; omega
  · show costT (.mk a ks) ≤ 1500
    omega)
theorem k_l4Some : SoundC Tryz.prog K_l4Some.1 K_l4Some.2 := sound_ofW hm (((((CtxOK.nil.and k_l4CopyO).and k_lAny).and k_of).and k_num).and k_pick) (fun _ => []) (by kernel_rfl) fun ((b, p, s) : List Int × Int × Pl.Sig) hb => g_l4Some b p s hb.1 hb.2
theorem k_DrawModelTerm : SoundC Tryz.prog K_DrawModelTerm.1 K_DrawModelTerm.2 := sound_of hm ((((CtxOK.nil.and k_l4Some).and k_l7Some).and k_l4Sig).and k_l16Open) (fun _ => []) (by kernel_rfl) fun (b : List Int) hb => (by
  obtain ⟨h1, h2⟩ : Sz b ∧ Byt b := hb
  rw [← vc_DrawModelTerm b]
  simp [-List.getD_eq_getElem?_getD, -List.mem_cons, -Bool.forall_bool, -Bool.exists_bool, and_assoc, peta, tl_inj, ex_1, ex_2, ex_3, ex_4, ex_5, ex_6, ex_7, ex_8, ex_9, ey_2, ey_3, ey_4, ey_5, ey_6, ey_7, ey_8, ey_9]
  exact ⟨by omega, h2, fun y hr => ⟨hr.to (by omega) (by omega), fun s hs => ⟨hr.to (by omega) (by omega), hs, fun m q hm q1 q2 => ⟨hr.to (by omega) (by omega), hs, fun a ks q' ht _ _ => ⟨hs, hm, ht⟩⟩⟩⟩⟩)
theorem Is_rowsI {α : Type} {k : Nat} {e : α → Nat → AV} {d : α} (hk : 0 < k) {v : α} {m : List α} {r : List AV} (h : ∀ v', (∀ j, j < k → Is (r.getD j .any) (e v' j)) ↔ v = v') :
    Is (.lit 1 k (rowsCell [r])) (.sl m.length k fun i j => e (m.getD i d) j) ↔ [v] = m := by
  constructor
  · intro h'
    rw [Is] at h'
    obtain ⟨h1, h2⟩ := h'
    match m, h1 with
    | [x], _ =>
      congr 1
      refine (h x).1 fun j hj => ?_
      rcases h2 with h2 | ⟨_, h2⟩
      · omega
      · exact h2 0 (by omega) j hj
  · rintro rfl
    refine Is_lit_of rfl fun i hi j hj => ?_
    have : i = 0 := by simpa using hi
    subst this
    exact (h v).2 rfl j hj
@[simp] theorem terms_lit1 {a : ByteArray} {ks m : List Tm} : Is (.lit 1 2 (rowsCell [[st a, terms ks]])) (terms m) ↔ [Tree.mk a ks] = m := Is_rowsI (e := eT) (d := dT) (by decide) fun v' => by
  constructor
  · intro h
    have h0 : Is (st a) (st v'.val) := h 0 (by decide)
    have h1 : Is (terms ks) (kidsT v') := h 1 (by decide)
    exact Tree.ext (Is_st.1 h0) (Is_terms_kidsT.1 h1)
  · rintro rfl j hj
    exact Is_rowT (Is_terms.2 rfl) j hj
@[simp] theorem terms_lit0 {a : ByteArray} {q : Nat} {c : Nat → Nat → AV} {m : List Tm} : Is (.lit 1 2 (rowsCell [[st a, .lit 0 q c]])) (terms m) ↔ [Tree.mk a []] = m := Is_rowsI (e := eT) (d := dT) (by decide) fun v' => by
  constructor
  · intro h
    have h0 : Is (st a) (st v'.val) := h 0 (by decide)
    have h1 : Is (.lit 0 q c) (kidsT v') := h 1 (by decide)
    unfold kidsT at h1
    rw [Is] at h1
    exact Tree.ext (Is_st.1 h0) (List.eq_nil_of_length_eq_zero h1.1.symm).symm
  · rintro rfl j hj
    exact Is_rowT (terms_nil.2 rfl) j hj
end Cg

/-
  The codes' contracts: drawn atoms. No condition.
-/
set_option linter.unusedVariables false
set_option linter.unusedSimpArgs false
set_option maxRecDepth 100000
namespace Cg
open Go Go.Proofs Pl
theorem _root_.Pl.PutB.nil {ns : List Tm} {t : Tm} {n : Nat} : PutB ns t n [] [] := ⟨Nat.zero_le _, rfl, fun u hu => by cases hu⟩
theorem _root_.Pl.PutB.push {ns : List Tm} {t u : Tm} {n n' : Nat} {ms : List Tm} {ts : List Int} {c : Int} (h : PutB ns t n ms ts) (hu : u ∈ ns ∨ u = t) (hn : n + 1 ≤ n') : PutB ns t n' (ms ++ [u]) (ts ++ [c]) :=
  ⟨by have := h.1; simp; omega, by have := h.2.1; simp; omega, mem_push_imp h.2.2 hu⟩
theorem _root_.Pl.PutB.mono {ns : List Tm} {t : Tm} {n n' : Nat} {ms : List Tm} {ts : List Int} (h : PutB ns t n ms ts) (hn : n ≤ n') : PutB ns t n' ms ts := ⟨Nat.le_trans h.1 hn, h.2⟩
theorem _root_.Pl.AtB.mono {n n' : Nat} {x : Atm} (h : AtB n x) (hn : n ≤ n') : AtB n' x := ⟨h.1, h.2.1, Nat.le_trans h.2.2.1 hn, Nat.le_trans h.2.2.2.1 hn, h.2.2.2.2⟩
theorem costTs_le {c : Nat} : ∀ {l : List Tm}, (∀ t ∈ l, costT t ≤ c) → costTs l ≤ l.length * c
  | [], _ => Nat.zero_le _
  | t :: ts, h => by
    have h1 := h t List.mem_cons_self
    have h2 := costTs_le (l := ts) fun u hu => h u (List.mem_cons_of_mem _ hu)
    rw [costTs, List.length_cons, Nat.succ_mul]; omega
theorem at_sm {n : Nat} {x : Atm} (h : AtB n x) (hn : n ≤ 100 := by decide) : costA x ≤ 1048576 := by
  obtain ⟨h1, h2, h3, h4, h5⟩ := h
  have h6 := costTs_le h5
  have h7 : x.2.2.2.1.length * 400 ≤ 100 * 400 := Nat.mul_le_mul_right _ (by omega)
  unfold costA; omega
theorem Rds.tm (a : ByteArray) (ks : List Tm) : Rds 2 eT dT 1 (rowsCell [[st a, terms ks]]) [.mk a ks] := Rds.row (terms_row a ks)
theorem Rds.int (a : Int) : Rds 1 eI 0 1 (rowsCell [[i64 a]]) [a] := Rds.row (ints_row a)
end Cg

/-
  Plain laws of literals in models: strict and weak bounds, equality turned round, the model of no rows, parts of sums. No condition.
-/
set_option linter.unusedVariables false
set_option linter.unusedSimpArgs false
namespace Pl
open Go Cg
theorem eq_ok {s : Sig} {a b : TP} (h1 : sigOk s = true) (h2 : right (.mk a.1 a.2) = true) (h3 : right (.mk b.1 b.2) = true) (h4 : eqSorted s (.mk a.1 a.2) (.mk b.1 b.2) = true) : atomOk s (1, a, b, [], [], 0, false) = true := by
  simp only [atomOk, atomRight, eqRight, Bool.and_eq_true, if_neg (show ¬ (1 : Int) = 2 by decide), decide_eq_true_eq, Bool.not_eq_true', ↓reduceIte]
  exact ⟨⟨h1, trivial, ⟨⟨⟨⟨h2, h3⟩, trivial⟩, trivial⟩, trivial⟩, trivial⟩, h4⟩
theorem mt_some {s : Sig} {m : Mdl} {t : Tm} (h : (modelTerm s m t).2 = true) : (termSort s t).2 = true ∧ modelOk s m = true ∧ (modelTerm s m t).1 = valT m t := by
  unfold modelTerm at h ⊢
  split at h
  · cases h
  · rename_i h1
    rw [if_neg h1]
    simp only [Bool.or_eq_true, Bool.not_eq_true', not_or, Bool.not_eq_false] at h1
    exact ⟨h1.1, h1.2, rfl⟩
/-- In the model of no rows. -/
theorem mt_none {s : Sig} {v : ByteArray} {ks : List Tm} (h : (modelTerm s [] (.mk v ks)).2 = true) : (modelTerm s [] (.mk v ks)).1 = (0, 1) ∧ modelLit s [] ((1, (v, ks), (v, ks), [], [], 0, false), false) = (true, true) := by
  obtain ⟨h1, h2, h3⟩ := mt_some h
  refine ⟨by rw [h3, valT_mk]; rfl, ?_⟩
  unfold termSort at h1
  split at h1
  · rename_i h4
    simp only [Bool.and_eq_true] at h4
    have h5 : eqSorted s (.mk v ks) (.mk v ks) = true := by
      unfold eqSorted termSort
      rw [if_pos (by simp [h4])]
      simpa using h1
    have hv : atomV [] (1, (v, ks), (v, ks), [], [], 0, false) = (true, true) := by
      unfold atomV
      rw [if_pos rfl, decide_eq_true rfl]
    rw [ml_yes h2 (eq_ok (a := (v, ks)) (b := (v, ks)) h4.1 h4.2 h4.2 h5), hv]
    rfl
  · cases h1
end Pl

/-
  The codes' contracts: drawn literals, and laws of literals in models. No condition.
-/
set_option linter.unusedVariables false
set_option linter.unusedSimpArgs false
set_option maxRecDepth 100000
namespace Cg
open Go Go.Proofs Pl
theorem _root_.Pl.LsB.push {n n' : Nat} {l : List Ltr} {x : Ltr} (h : LsB n l) (hx : AtB 4 x.1) (hn : n + 1 ≤ n') : LsB n' (l ++ [x]) := ⟨by have := h.1; simp; omega, mem_push_imp h.2 hx⟩
set_option maxHeartbeats 8000000 in
theorem g_yModelNone (b : List Int) (hb : Byt b) : GoalW Tryz.prog [K_DrawModelTerm, K_iModelTerm, K_sModelTerm, K_iModelLit] ([]) K_yModelNone.1 K_yModelNone.2 (b) := GoalW.of (vc_yModelNone b) (by
  simp (maxSteps := 2000000) [-List.getD_eq_getElem?_getD, -List.mem_cons, -Bool.forall_bool, -Bool.exists_bool, and_assoc, peta, tl_inj, ex_1, ex_2, ex_3, ex_4, ex_5, ex_6, ex_7, ex_8, ex_9, ey_2, ey_3, ey_4, ey_5, ey_6, ey_7, ey_8, ey_9]
  refine fun l1 => ⟨by omega, hb, fun s m v ks hs hm ht => ?_⟩
  have e1 := sg_sm hs
  have e2 : costM [] ≤ 1048576 := by decide
  have e3 : costT (.mk v ks) ≤ 1500 := ht
  have e4 : costA (1, (v, ks), (v, ks), [], [], 0, false) ≤ 1048576 := at_sm (n := 0) ⟨e3, e3, Nat.le_refl _, Nat.le_refl _, fun t ht => by cases ht⟩
  refine ⟨e1, e2, by omega, e1, e2, by omega, fun hok => ?_⟩
  obtain ⟨o1, o2⟩ := mt_none hok
  rw [o1, o2]
  exact ⟨e1, e2, e4, fun _ _ => ⟨fun _ => rfl, rfl⟩, rfl, rfl⟩)
theorem k_yModelNone : SoundC Tryz.prog K_yModelNone.1 K_yModelNone.2 := sound_ofW hm ((((CtxOK.nil.and k_iModelLit).and k_sModelTerm).and k_iModelTerm).and k_DrawModelTerm) (fun (b : List Int) => []) (by kernel_rfl) fun (b : List Int) hb => g_yModelNone b hb
end Cg
