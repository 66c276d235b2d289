/-
  What is left to show of each function's code, printed by a program: Clause. No condition.
-/
import Derived.Test.YtjhiaobcbbnhnaaGreatClauseDefs
import Derived.Test.YtjhiaobcbbnhnaaGreatProg
set_option maxRecDepth 100000
set_option linter.unusedVariables false
namespace Cg
open Go Go.Proofs
theorem vc_within (x y z : Int) : (condP (Decidable.decide (y ≤ x)) (Decidable.decide (x ≤ z) = Pl.withinI x y z) (Bool.false = Pl.withinI x y z)) = Goal Tryz.prog [] ([]) K_within.1 K_within.2 ((x, y, z)) := by kernel_rfl

theorem vc_toIntS (l : List Int) : ((0 : Int) ≤ (↑l.length : Int) ∧
 (↑l.length : Int) ≤ (↑l.length : Int) ∧
 (↑(8 : Nat) : Int) * (↑l.length : Int) ≤ (140737488355328 : Int) ∧
 (↑l.length : Int) ≤ (140737488355328 : Int) ∧
 (Exists fun (x : Nat × List Int) =>
 (x.fst ≤ l.length ∧ x.snd.length = l.length ∧ List.take x.fst x.snd = List.take x.fst l) ∧
 (Is (ints l) (ints l) ∧ ((0 : Nat) = (0 : Nat) ∧ l.length = x.snd.length) ∧ (0 : Int) = (↑x.fst : Int) ∧ True) ∧
 IsO (AObj.arr l.length (1 : Nat) fun (x j : Nat) => [i64 (0 : Int)].getD j AV.any) (arI x.snd) ∧ True) ∧
 ∀ (x : Nat × List Int),
 x.fst ≤ l.length ∧ x.snd.length = l.length ∧ List.take x.fst x.snd = List.take x.fst l →
 condP (Decidable.decide ((↑x.fst : Int) < (↑l.length : Int)))
 (((0 : Int) ≤ (↑x.fst : Int) ∧ (↑x.fst : Int) < (↑l.length : Int)) ∧
 x.fst < l.length ∧
 ((0 : Int) ≤ (↑x.fst : Int) ∧ (↑x.fst : Int) < (↑x.snd.length : Int)) ∧
 x.fst < x.snd.length ∧
 Exists fun (x' : Nat × List Int) =>
 (x'.fst ≤ l.length ∧ x'.snd.length = l.length ∧ List.take x'.fst x'.snd = List.take x'.fst l) ∧
 l.length - x'.fst < l.length - x.fst ∧
 (Is (ints l) (ints l) ∧ ((0 : Nat) = (0 : Nat) ∧ x.snd.length = x'.snd.length) ∧ IntKind.i64.wrap ((↑x.fst : Int) + (1 : Int)) = (↑x'.fst : Int) ∧ True) ∧
 IsO (AObj.arr x.snd.length (1 : Nat) (storeC (cI x.snd) x.fst (0 : Nat) [i64 (l.getD x.fst (0 : Int))])) (arI x'.snd) ∧ True)
 ((0 : Nat) + x.snd.length ≤ x.snd.length ∧ Is (ints x.snd) (ints l))) = Goal Tryz.prog [] (A_toIntS l) K_toIntS.1 K_toIntS.2 (l) := by kernel_rfl

theorem vc_eqIntS (l m : List Int) : (condP ((↑l.length : Int) != (↑m.length : Int)) (Bool.false = Decidable.decide (l = m))
 ((Exists fun (x : Nat) =>
 (x ≤ l.length ∧ l.length = m.length ∧ (l = m ↔ List.drop x l = List.drop x m)) ∧ (Is (ints l) (ints l) ∧ Is (ints m) (ints m) ∧ (0 : Int) = (↑x : Int) ∧ True) ∧ True) ∧
 ∀ (x : Nat),
 x ≤ l.length ∧ l.length = m.length ∧ (l = m ↔ List.drop x l = List.drop x m) →
 condP (Decidable.decide ((↑x : Int) < (↑l.length : Int)))
 (((0 : Int) ≤ (↑x : Int) ∧ (↑x : Int) < (↑l.length : Int)) ∧
 x < l.length ∧
 ((0 : Int) ≤ (↑x : Int) ∧ (↑x : Int) < (↑m.length : Int)) ∧
 x < m.length ∧
 condP (l.getD x (0 : Int) != m.getD x (0 : Int)) (Bool.false = Decidable.decide (l = m))
 (Exists fun (x' : Nat) =>
 (x' ≤ l.length ∧ l.length = m.length ∧ (l = m ↔ List.drop x' l = List.drop x' m)) ∧
 l.length - x' < l.length - x ∧ (Is (ints l) (ints l) ∧ Is (ints m) (ints m) ∧ IntKind.i64.wrap ((↑x : Int) + (1 : Int)) = (↑x' : Int) ∧ True) ∧ True))
 (Bool.true = Decidable.decide (l = m)))) = Goal Tryz.prog [] (A_eqIntS l m) K_eqIntS.1 K_eqIntS.2 ((l, m)) := by kernel_rfl

end Cg
