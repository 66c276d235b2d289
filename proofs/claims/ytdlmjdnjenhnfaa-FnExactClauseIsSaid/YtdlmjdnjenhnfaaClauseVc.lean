/-
  What is left to show of each function's code, printed by a program: Clause. No condition.
-/
import Derived.Test.YtdlmjdnjenhnfaaClauseDefs
import Derived.Test.YtdlmjdnjenhnfaaProg
set_option maxRecDepth 100000
set_option linter.unusedVariables false
namespace Cg
open Go Go.Proofs
theorem vc_l10Abs (x : Int) (K : AV → Prop) : (Cg.condP (Decidable.decide (x < (-60 : Int))) (K (Cg.AV.v (Go.Value.int Go.IntKind.i64 (61 : Int))))
 (Cg.condP (Decidable.decide (x > (60 : Int))) (K (Cg.AV.v (Go.Value.int Go.IntKind.i64 (61 : Int))))
 (Cg.condP (Decidable.decide (x < (0 : Int))) (K (Cg.AV.v (Go.Value.int Go.IntKind.i64 (Go.IntKind.i64.wrap ((0 : Int) - x))))) (K (Cg.AV.v (Go.Value.int Go.IntKind.i64 x)))))) = awpF Try.prog ([]) ([]) Nm.spec_l10Abs ([i64 x]) K := by kernel_rfl

theorem vc_within (x y z : Int) (K : AV → Prop) : (Cg.condP (Decidable.decide (y ≤ x)) (K (Cg.AV.v (Go.Value.bool (Decidable.decide (x ≤ z))))) (K (Cg.AV.v (Go.Value.bool Bool.false)))) = awpF Try.prog ([]) ([]) Nm.impl_within ([i64 x, i64 y, i64 z]) K := by kernel_rfl

theorem vc_isMark (x y : Int) (K : AV → Prop) : (Cg.condP (x != (0 : Int)) (True ∧ True ∧ True ∧ K (Cg.AV.v (Go.Value.bool (Pl.withinI x (Go.IntKind.i64.wrap ((0 : Int) - y)) y)))) (K (Cg.AV.v (Go.Value.bool Bool.false)))) = awpF Try.prog ([K_within]) ([]) Nm.impl_isMark ([i64 x, i64 y]) K := by kernel_rfl

theorem vc_variable (x : Int) (K : AV → Prop) : (K (Cg.AV.v (Go.Value.int Go.IntKind.i64 (if Go.IntKind.i64.wrap ((0 : Int) - x) > x then Go.IntKind.i64.wrap ((0 : Int) - x) else x)))) = awpF Try.prog ([]) ([]) Nm.impl_variable ([i64 x]) K := by kernel_rfl

theorem vc_sClauseOk (l : List Int) (many : Int) (K : AV → Prop) : ((Exists fun (x : Nat × Int) =>
 (x.fst ≤ l.length ∧ Pl.specClause l many = Pl.specLoop many x.snd (List.drop x.fst l)) ∧
 ((l.length = l.length ∧
 (1 : Nat) = (1 : Nat) ∧
 ∀ (i : Nat), i < l.length → ∀ (j : Nat), j < (1 : Nat) → Cg.AV.v (Go.Value.int Go.IntKind.i64 (l.getD i (0 : Int))) = Cg.AV.v (Go.Value.int Go.IntKind.i64 (l.getD i (0 : Int)))) ∧
 (Go.IntKind.i64 = Go.IntKind.i64 ∧ many = many) ∧ (Go.IntKind.i64 = Go.IntKind.i64 ∧ (0 : Int) = x.snd) ∧ (Go.IntKind.i64 = Go.IntKind.i64 ∧ (0 : Int) = (↑x.fst : Int)) ∧ True) ∧
 True) ∧
 ∀ (x : Nat × Int),
 x.fst ≤ l.length ∧ Pl.specClause l many = Pl.specLoop many x.snd (List.drop x.fst l) →
 Cg.condP (Decidable.decide ((↑x.fst : Int) < (↑l.length : Int)))
 (((0 : Int) ≤ (↑x.fst : Int) ∧ (↑x.fst : Int) < (↑l.length : Int)) ∧
 (↑x.fst : Int).toNat < l.length ∧
 True ∧
 Cg.condP (Decidable.decide (Pl.absW (l.getD (↑x.fst : Int).toNat (0 : Int)) ≤ x.snd)) (K (Cg.AV.v (Go.Value.bool Bool.false)))
 (((0 : Int) ≤ (↑x.fst : Int) ∧ (↑x.fst : Int) < (↑l.length : Int)) ∧
 (↑x.fst : Int).toNat < l.length ∧
 True ∧
 Cg.condP (Decidable.decide (Pl.absW (l.getD (↑x.fst : Int).toNat (0 : Int)) > many)) (K (Cg.AV.v (Go.Value.bool Bool.false)))
 (((0 : Int) ≤ (↑x.fst : Int) ∧ (↑x.fst : Int) < (↑l.length : Int)) ∧
 (↑x.fst : Int).toNat < l.length ∧
 True ∧
 Exists fun (x' : Nat × Int) =>
 (x'.fst ≤ l.length ∧ Pl.specClause l many = Pl.specLoop many x'.snd (List.drop x'.fst l)) ∧
 l.length - x'.fst < l.length - x.fst ∧
 ((l.length = l.length ∧
 (1 : Nat) = (1 : Nat) ∧
 ∀ (i : Nat),
 i < l.length →
 ∀ (j : Nat), j < (1 : Nat) → Cg.AV.v (Go.Value.int Go.IntKind.i64 (l.getD i (0 : Int))) = Cg.AV.v (Go.Value.int Go.IntKind.i64 (l.getD i (0 : Int)))) ∧
 (Go.IntKind.i64 = Go.IntKind.i64 ∧ many = many) ∧
 (Go.IntKind.i64 = Go.IntKind.i64 ∧ Pl.absW (l.getD (↑x.fst : Int).toNat (0 : Int)) = x'.snd) ∧
 (Go.IntKind.i64 = Go.IntKind.i64 ∧ Go.IntKind.i64.wrap ((↑x.fst : Int) + (1 : Int)) = (↑x'.fst : Int)) ∧ True) ∧
 True)))
 (Cg.condP (Decidable.decide (many ≥ (0 : Int))) (K (Cg.AV.v (Go.Value.bool (Decidable.decide (many ≤ (60 : Int)))))) (K (Cg.AV.v (Go.Value.bool Bool.false))))) = awpF Try.prog ([K_l10Abs]) (A_sClauseOk l many) Nm.spec_ClauseOk ([ints l, i64 many]) K := by kernel_rfl

theorem vc_iClauseOk (l : List Int) (many : Int) (K : AV → Prop) : (True ∧
 True ∧
 True ∧
 Cg.condP (!Pl.withinI many (0 : Int) (60 : Int)) (K (Cg.AV.v (Go.Value.bool Bool.false)))
 ((Exists fun (x : Nat) =>
 (x ≤ l.length ∧ Pl.implClause l many = Pl.implLoop many (Pl.prev l x) (List.drop x l)) ∧
 ((l.length = l.length ∧
 (1 : Nat) = (1 : Nat) ∧
 ∀ (i : Nat),
 i < l.length → ∀ (j : Nat), j < (1 : Nat) → Cg.AV.v (Go.Value.int Go.IntKind.i64 (l.getD i (0 : Int))) = Cg.AV.v (Go.Value.int Go.IntKind.i64 (l.getD i (0 : Int)))) ∧
 (Go.IntKind.i64 = Go.IntKind.i64 ∧ many = many) ∧
 (l.length = l.length ∧
 (1 : Nat) = (1 : Nat) ∧
 ∀ (i : Nat),
 i < l.length → ∀ (j : Nat), j < (1 : Nat) → Cg.AV.v (Go.Value.int Go.IntKind.i64 (l.getD i (0 : Int))) = Cg.AV.v (Go.Value.int Go.IntKind.i64 (l.getD i (0 : Int)))) ∧
 (Go.IntKind.i64 = Go.IntKind.i64 ∧ (↑l.length : Int) = (↑l.length : Int)) ∧ (Go.IntKind.i64 = Go.IntKind.i64 ∧ (0 : Int) = (↑x : Int)) ∧ True) ∧
 True) ∧
 ∀ (x : Nat),
 x ≤ l.length ∧ Pl.implClause l many = Pl.implLoop many (Pl.prev l x) (List.drop x l) →
 Cg.condP (Decidable.decide ((↑x : Int) < (↑l.length : Int)))
 (((0 : Int) ≤ (↑x : Int) ∧ (↑x : Int) < (↑l.length : Int)) ∧
 (↑x : Int).toNat < l.length ∧
 True ∧
 True ∧
 Cg.condP (!Pl.isMark (l.getD (↑x : Int).toNat (0 : Int)) many) (K (Cg.AV.v (Go.Value.bool Bool.false)))
 (Cg.condP (Decidable.decide ((↑x : Int) > (0 : Int)))
 (((0 : Int) ≤ Go.IntKind.i64.wrap ((↑x : Int) - (1 : Int)) ∧ Go.IntKind.i64.wrap ((↑x : Int) - (1 : Int)) < (↑l.length : Int)) ∧
 (Go.IntKind.i64.wrap ((↑x : Int) - (1 : Int))).toNat < l.length ∧
 True ∧
 True ∧
 Cg.condP (Decidable.decide (Pl.varI (l.getD (Go.IntKind.i64.wrap ((↑x : Int) - (1 : Int))).toNat (0 : Int)) ≥ Pl.varI (l.getD (↑x : Int).toNat (0 : Int))))
 (K (Cg.AV.v (Go.Value.bool Bool.false)))
 (Exists fun (x' : Nat) =>
 (x' ≤ l.length ∧ Pl.implClause l many = Pl.implLoop many (Pl.prev l x') (List.drop x' l)) ∧
 l.length - x' < l.length - x ∧
 ((l.length = l.length ∧
 (1 : Nat) = (1 : Nat) ∧
 ∀ (i : Nat),
 i < l.length →
 ∀ (j : Nat),
 j < (1 : Nat) → Cg.AV.v (Go.Value.int Go.IntKind.i64 (l.getD i (0 : Int))) = Cg.AV.v (Go.Value.int Go.IntKind.i64 (l.getD i (0 : Int)))) ∧
 (Go.IntKind.i64 = Go.IntKind.i64 ∧ many = many) ∧
 (l.length = l.length ∧
 (1 : Nat) = (1 : Nat) ∧
 ∀ (i : Nat),
 i < l.length →
 ∀ (j : Nat),
 j < (1 : Nat) → Cg.AV.v (Go.Value.int Go.IntKind.i64 (l.getD i (0 : Int))) = Cg.AV.v (Go.Value.int Go.IntKind.i64 (l.getD i (0 : Int)))) ∧
 (Go.IntKind.i64 = Go.IntKind.i64 ∧ (↑l.length : Int) = (↑l.length : Int)) ∧
 (Go.IntKind.i64 = Go.IntKind.i64 ∧ Go.IntKind.i64.wrap ((↑x : Int) + (1 : Int)) = (↑x' : Int)) ∧ True) ∧
 True))
 (Exists fun (x' : Nat) =>
 (x' ≤ l.length ∧ Pl.implClause l many = Pl.implLoop many (Pl.prev l x') (List.drop x' l)) ∧
 l.length - x' < l.length - x ∧
 ((l.length = l.length ∧
 (1 : Nat) = (1 : Nat) ∧
 ∀ (i : Nat),
 i < l.length →
 ∀ (j : Nat), j < (1 : Nat) → Cg.AV.v (Go.Value.int Go.IntKind.i64 (l.getD i (0 : Int))) = Cg.AV.v (Go.Value.int Go.IntKind.i64 (l.getD i (0 : Int)))) ∧
 (Go.IntKind.i64 = Go.IntKind.i64 ∧ many = many) ∧
 (l.length = l.length ∧
 (1 : Nat) = (1 : Nat) ∧
 ∀ (i : Nat),
 i < l.length →
 ∀ (j : Nat),
 j < (1 : Nat) → Cg.AV.v (Go.Value.int Go.IntKind.i64 (l.getD i (0 : Int))) = Cg.AV.v (Go.Value.int Go.IntKind.i64 (l.getD i (0 : Int)))) ∧
 (Go.IntKind.i64 = Go.IntKind.i64 ∧ (↑l.length : Int) = (↑l.length : Int)) ∧
 (Go.IntKind.i64 = Go.IntKind.i64 ∧ Go.IntKind.i64.wrap ((↑x : Int) + (1 : Int)) = (↑x' : Int)) ∧ True) ∧
 True)))
 (K (Cg.AV.v (Go.Value.bool Bool.true))))) = awpF Try.prog ([K_within, K_isMark, K_variable]) (A_iClauseOk l many) Nm.impl_ClauseOk ([ints l, i64 many]) K := by kernel_rfl

theorem vc_toIntS (l : List Int) (K : AV → Prop) : ((0 : Int) ≤ (↑l.length : Int) ∧
 (↑l.length : Int) ≤ (↑l.length : Int) ∧
 (↑(8 : Nat) : Int) * (↑l.length : Int) ≤ (140737488355328 : Int) ∧
 (↑l.length : Int) ≤ (140737488355328 : Int) ∧
 (Exists fun (x : Nat) =>
 x ≤ l.length ∧
 ((l.length = l.length ∧
 (1 : Nat) = (1 : Nat) ∧
 ∀ (i : Nat),
 i < l.length → ∀ (j : Nat), j < (1 : Nat) → Cg.AV.v (Go.Value.int Go.IntKind.i64 (l.getD i (0 : Int))) = Cg.AV.v (Go.Value.int Go.IntKind.i64 (l.getD i (0 : Int)))) ∧
 ((0 : Nat) = (0 : Nat) ∧ (0 : Nat) = (0 : Nat) ∧ (↑l.length : Int).toNat = l.length) ∧ (Go.IntKind.i64 = Go.IntKind.i64 ∧ (0 : Int) = (↑x : Int)) ∧ True) ∧
 ((↑l.length : Int).toNat = l.length ∧
 (1 : Nat) = (1 : Nat) ∧
 ∀ (i : Nat),
 i < (↑l.length : Int).toNat →
 ∀ (j : Nat),
 j < (1 : Nat) →
 [Cg.AV.v (Go.Value.int Go.IntKind.i64 (0 : Int))].getD j Cg.AV.any = Cg.AV.v (Go.Value.int Go.IntKind.i64 (if i < x then l.getD i (0 : Int) else (0 : Int)))) ∧
 True) ∧
 ∀ (x : Nat),
 x ≤ l.length →
 Cg.condP (Decidable.decide ((↑x : Int) < (↑l.length : Int)))
 (((0 : Int) ≤ (↑x : Int) ∧ (↑x : Int) < (↑l.length : Int)) ∧
 (↑x : Int).toNat < l.length ∧
 ((0 : Int) ≤ (↑x : Int) ∧ (↑x : Int) < (↑l.length : Int)) ∧
 (↑x : Int).toNat + (0 : Nat) < l.length ∧
 Exists fun (x' : Nat) =>
 x' ≤ l.length ∧
 l.length - x' < l.length - x ∧
 ((l.length = l.length ∧
 (1 : Nat) = (1 : Nat) ∧
 ∀ (i : Nat),
 i < l.length →
 ∀ (j : Nat), j < (1 : Nat) → Cg.AV.v (Go.Value.int Go.IntKind.i64 (l.getD i (0 : Int))) = Cg.AV.v (Go.Value.int Go.IntKind.i64 (l.getD i (0 : Int)))) ∧
 ((0 : Nat) = (0 : Nat) ∧ (0 : Nat) = (0 : Nat) ∧ l.length = l.length) ∧
 (Go.IntKind.i64 = Go.IntKind.i64 ∧ Go.IntKind.i64.wrap ((↑x : Int) + (1 : Int)) = (↑x' : Int)) ∧ True) ∧
 (l.length = l.length ∧
 (1 : Nat) = (1 : Nat) ∧
 ∀ (i : Nat),
 i < l.length →
 ∀ (j : Nat),
 j < (1 : Nat) →
 Cg.storeC (fun (i x_1 : Nat) => Cg.AV.v (Go.Value.int Go.IntKind.i64 (if i < x then l.getD i (0 : Int) else (0 : Int)))) ((↑x : Int).toNat + (0 : Nat))
 (0 : Nat) [Cg.AV.v (Go.Value.int Go.IntKind.i64 (l.getD (↑x : Int).toNat (0 : Int)))] i j =
 Cg.AV.v (Go.Value.int Go.IntKind.i64 (if i < x' then l.getD i (0 : Int) else (0 : Int)))) ∧
 True)
 ((0 : Nat) + l.length ≤ l.length ∧
 K (Cg.AV.sl l.length (1 : Nat) fun (i j : Nat) => Cg.AV.v (Go.Value.int Go.IntKind.i64 (if i + (0 : Nat) < x then l.getD (i + (0 : Nat)) (0 : Int) else (0 : Int)))))) = awpF Try.prog ([]) (A_toIntS l) Nm.laws_toIntS ([ints l]) K := by kernel_rfl

theorem vc_eqIntS (l m : List Int) (K : AV → Prop) : (Cg.condP ((↑l.length : Int) != (↑m.length : Int)) (K (Cg.AV.v (Go.Value.bool Bool.false)))
 ((Exists fun (x : Nat) =>
 (x ≤ l.length ∧ l.length = m.length ∧ (l = m ↔ List.drop x l = List.drop x m)) ∧
 ((l.length = l.length ∧
 (1 : Nat) = (1 : Nat) ∧
 ∀ (i : Nat), i < l.length → ∀ (j : Nat), j < (1 : Nat) → Cg.AV.v (Go.Value.int Go.IntKind.i64 (l.getD i (0 : Int))) = Cg.AV.v (Go.Value.int Go.IntKind.i64 (l.getD i (0 : Int)))) ∧
 (m.length = m.length ∧
 (1 : Nat) = (1 : Nat) ∧
 ∀ (i : Nat), i < m.length → ∀ (j : Nat), j < (1 : Nat) → Cg.AV.v (Go.Value.int Go.IntKind.i64 (m.getD i (0 : Int))) = Cg.AV.v (Go.Value.int Go.IntKind.i64 (m.getD i (0 : Int)))) ∧
 (Go.IntKind.i64 = Go.IntKind.i64 ∧ (0 : Int) = (↑x : Int)) ∧ True) ∧
 True) ∧
 ∀ (x : Nat),
 x ≤ l.length ∧ l.length = m.length ∧ (l = m ↔ List.drop x l = List.drop x m) →
 Cg.condP (Decidable.decide ((↑x : Int) < (↑l.length : Int)))
 (((0 : Int) ≤ (↑x : Int) ∧ (↑x : Int) < (↑l.length : Int)) ∧
 (↑x : Int).toNat < l.length ∧
 ((0 : Int) ≤ (↑x : Int) ∧ (↑x : Int) < (↑m.length : Int)) ∧
 (↑x : Int).toNat < m.length ∧
 Cg.condP (l.getD (↑x : Int).toNat (0 : Int) != m.getD (↑x : Int).toNat (0 : Int)) (K (Cg.AV.v (Go.Value.bool Bool.false)))
 (Exists fun (x' : Nat) =>
 (x' ≤ l.length ∧ l.length = m.length ∧ (l = m ↔ List.drop x' l = List.drop x' m)) ∧
 l.length - x' < l.length - x ∧
 ((l.length = l.length ∧
 (1 : Nat) = (1 : Nat) ∧
 ∀ (i : Nat),
 i < l.length →
 ∀ (j : Nat), j < (1 : Nat) → Cg.AV.v (Go.Value.int Go.IntKind.i64 (l.getD i (0 : Int))) = Cg.AV.v (Go.Value.int Go.IntKind.i64 (l.getD i (0 : Int)))) ∧
 (m.length = m.length ∧
 (1 : Nat) = (1 : Nat) ∧
 ∀ (i : Nat),
 i < m.length →
 ∀ (j : Nat), j < (1 : Nat) → Cg.AV.v (Go.Value.int Go.IntKind.i64 (m.getD i (0 : Int))) = Cg.AV.v (Go.Value.int Go.IntKind.i64 (m.getD i (0 : Int)))) ∧
 (Go.IntKind.i64 = Go.IntKind.i64 ∧ Go.IntKind.i64.wrap ((↑x : Int) + (1 : Int)) = (↑x' : Int)) ∧ True) ∧
 True))
 (K (Cg.AV.v (Go.Value.bool Bool.true))))) = awpF Try.prog ([]) (A_eqIntS l m) Nm.laws_eqIntS ([ints l, ints m]) K := by kernel_rfl

end Cg
