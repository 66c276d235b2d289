/-
  What is left to show of each function's code, printed by a program: Vals. No condition.
-/
import Derived.Test.YtdlmjdnjenhnfaaValsDefs
import Derived.Test.YtdlmjdnjenhnfaaProg
set_option maxRecDepth 100000
set_option linter.unusedVariables false
namespace Cg
open Go Go.Proofs
theorem vc_toBoolS (l : List Bool) (K : AV → Prop) : ((0 : Int) ≤ (↑l.length : Int) ∧
 (↑l.length : Int) ≤ (↑l.length : Int) ∧
 (↑(1 : Nat) : Int) * (↑l.length : Int) ≤ (140737488355328 : Int) ∧
 (↑l.length : Int) ≤ (140737488355328 : Int) ∧
 (Exists fun (x : Nat) =>
 x ≤ l.length ∧
 ((l.length = l.length ∧
 (1 : Nat) = (1 : Nat) ∧ ∀ (i : Nat), i < l.length → ∀ (j : Nat), j < (1 : Nat) → Cg.AV.v (Go.Value.bool (l.getD i Bool.false)) = Cg.AV.v (Go.Value.bool (l.getD i Bool.false))) ∧
 ((0 : Nat) = (0 : Nat) ∧ (0 : Nat) = (0 : Nat) ∧ (↑l.length : Int).toNat = l.length) ∧ (Go.IntKind.i64 = Go.IntKind.i64 ∧ (0 : Int) = (↑x : Int)) ∧ True) ∧
 ((↑l.length : Int).toNat = l.length ∧
 (1 : Nat) = (1 : Nat) ∧
 ∀ (i : Nat),
 i < (↑l.length : Int).toNat →
 ∀ (j : Nat), j < (1 : Nat) → [Cg.AV.v (Go.Value.bool Bool.false)].getD j Cg.AV.any = Cg.AV.v (Go.Value.bool (if i < x then l.getD i Bool.false else Bool.false))) ∧
 True) ∧
 ∀ (x : Nat),
 x ≤ l.length →
 Cg.condP (Decidable.decide ((↑x : Int) < (↑l.length : Int)))
 (((0 : Int) ≤ (↑x : Int) ∧ (↑x : Int) < (↑l.length : Int)) ∧
 (↑x : Int).toNat < l.length ∧
 ((0 : Int) ≤ (↑x : Int) ∧ (↑x : Int) < (↑l.length : Int)) ∧
 (↑x : Int).toNat + (0 : Nat) < l.length ∧
 Exists fun (x' : Nat) =>
 x' ≤ l.length ∧
 l.length - x' < l.length - x ∧
 ((l.length = l.length ∧
 (1 : Nat) = (1 : Nat) ∧
 ∀ (i : Nat), i < l.length → ∀ (j : Nat), j < (1 : Nat) → Cg.AV.v (Go.Value.bool (l.getD i Bool.false)) = Cg.AV.v (Go.Value.bool (l.getD i Bool.false))) ∧
 ((0 : Nat) = (0 : Nat) ∧ (0 : Nat) = (0 : Nat) ∧ l.length = l.length) ∧
 (Go.IntKind.i64 = Go.IntKind.i64 ∧ Go.IntKind.i64.wrap ((↑x : Int) + (1 : Int)) = (↑x' : Int)) ∧ True) ∧
 (l.length = l.length ∧
 (1 : Nat) = (1 : Nat) ∧
 ∀ (i : Nat),
 i < l.length →
 ∀ (j : Nat),
 j < (1 : Nat) →
 Cg.storeC (fun (i x_1 : Nat) => Cg.AV.v (Go.Value.bool (if i < x then l.getD i Bool.false else Bool.false))) ((↑x : Int).toNat + (0 : Nat)) (0 : Nat)
 [Cg.AV.v (Go.Value.bool (l.getD (↑x : Int).toNat Bool.false))] i j =
 Cg.AV.v (Go.Value.bool (if i < x' then l.getD i Bool.false else Bool.false))) ∧
 True)
 ((0 : Nat) + l.length ≤ l.length ∧
 K (Cg.AV.sl l.length (1 : Nat) fun (i j : Nat) => Cg.AV.v (Go.Value.bool (if i + (0 : Nat) < x then l.getD (i + (0 : Nat)) Bool.false else Bool.false))))) = awpF Try.prog ([]) (A_toBoolS l) Nm.laws_toBoolS ([bools l]) K := by kernel_rfl

theorem vc_eqBoolS (l m : List Bool) (K : AV → Prop) : (Cg.condP ((↑l.length : Int) != (↑m.length : Int)) (K (Cg.AV.v (Go.Value.bool Bool.false)))
 ((Exists fun (x : Nat) =>
 (x ≤ l.length ∧ l.length = m.length ∧ (l = m ↔ List.drop x l = List.drop x m)) ∧
 ((l.length = l.length ∧
 (1 : Nat) = (1 : Nat) ∧ ∀ (i : Nat), i < l.length → ∀ (j : Nat), j < (1 : Nat) → Cg.AV.v (Go.Value.bool (l.getD i Bool.false)) = Cg.AV.v (Go.Value.bool (l.getD i Bool.false))) ∧
 (m.length = m.length ∧
 (1 : Nat) = (1 : Nat) ∧ ∀ (i : Nat), i < m.length → ∀ (j : Nat), j < (1 : Nat) → Cg.AV.v (Go.Value.bool (m.getD i Bool.false)) = Cg.AV.v (Go.Value.bool (m.getD i Bool.false))) ∧
 (Go.IntKind.i64 = Go.IntKind.i64 ∧ (0 : Int) = (↑x : Int)) ∧ True) ∧
 True) ∧
 ∀ (x : Nat),
 x ≤ l.length ∧ l.length = m.length ∧ (l = m ↔ List.drop x l = List.drop x m) →
 Cg.condP (Decidable.decide ((↑x : Int) < (↑l.length : Int)))
 (((0 : Int) ≤ (↑x : Int) ∧ (↑x : Int) < (↑l.length : Int)) ∧
 (↑x : Int).toNat < l.length ∧
 ((0 : Int) ≤ (↑x : Int) ∧ (↑x : Int) < (↑m.length : Int)) ∧
 (↑x : Int).toNat < m.length ∧
 Cg.condP (!l.getD (↑x : Int).toNat Bool.false == m.getD (↑x : Int).toNat Bool.false) (K (Cg.AV.v (Go.Value.bool Bool.false)))
 (Exists fun (x' : Nat) =>
 (x' ≤ l.length ∧ l.length = m.length ∧ (l = m ↔ List.drop x' l = List.drop x' m)) ∧
 l.length - x' < l.length - x ∧
 ((l.length = l.length ∧
 (1 : Nat) = (1 : Nat) ∧
 ∀ (i : Nat), i < l.length → ∀ (j : Nat), j < (1 : Nat) → Cg.AV.v (Go.Value.bool (l.getD i Bool.false)) = Cg.AV.v (Go.Value.bool (l.getD i Bool.false))) ∧
 (m.length = m.length ∧
 (1 : Nat) = (1 : Nat) ∧
 ∀ (i : Nat), i < m.length → ∀ (j : Nat), j < (1 : Nat) → Cg.AV.v (Go.Value.bool (m.getD i Bool.false)) = Cg.AV.v (Go.Value.bool (m.getD i Bool.false))) ∧
 (Go.IntKind.i64 = Go.IntKind.i64 ∧ Go.IntKind.i64.wrap ((↑x : Int) + (1 : Int)) = (↑x' : Int)) ∧ True) ∧
 True))
 (K (Cg.AV.v (Go.Value.bool Bool.true))))) = awpF Try.prog ([]) (A_eqBoolS l m) Nm.laws_eqBoolS ([bools l, bools m]) K := by kernel_rfl

theorem vc_l10Is (x : Int) (v : List Bool) (K : AV → Prop) : (Cg.condP (x == (0 : Int)) (K (Cg.AV.v (Go.Value.bool Bool.false)))
 (Cg.condP (Decidable.decide (x > (↑v.length : Int))) (K (Cg.AV.v (Go.Value.bool Bool.false)))
 (Cg.condP (Decidable.decide (x < Go.IntKind.i64.wrap ((0 : Int) - (↑v.length : Int)))) (K (Cg.AV.v (Go.Value.bool Bool.false)))
 (Cg.condP (Decidable.decide (x < (0 : Int)))
 (((0 : Int) ≤ Go.IntKind.i64.wrap ((-1 : Int) - x) ∧ Go.IntKind.i64.wrap ((-1 : Int) - x) < (↑v.length : Int)) ∧
 (Go.IntKind.i64.wrap ((-1 : Int) - x)).toNat < v.length ∧ K (Cg.AV.v (Go.Value.bool !v.getD (Go.IntKind.i64.wrap ((-1 : Int) - x)).toNat Bool.false)))
 (((0 : Int) ≤ Go.IntKind.i64.wrap (x - (1 : Int)) ∧ Go.IntKind.i64.wrap (x - (1 : Int)) < (↑v.length : Int)) ∧
 (Go.IntKind.i64.wrap (x - (1 : Int))).toNat < v.length ∧ K (Cg.AV.v (Go.Value.bool (v.getD (Go.IntKind.i64.wrap (x - (1 : Int))).toNat Bool.false)))))))) = awpF Try.prog ([]) ([]) Nm.spec_l10Is ([i64 x, bools v]) K := by kernel_rfl

theorem vc_isTrue (x : Int) (v : List Bool) (K : AV → Prop) : (Cg.condP (x == (0 : Int)) (K (Cg.AV.v (Go.Value.bool Bool.false)))
 (True ∧
 True ∧
 True ∧
 Cg.condP (!Pl.withinI x (Go.IntKind.i64.wrap ((0 : Int) - (↑v.length : Int))) (↑v.length : Int)) (K (Cg.AV.v (Go.Value.bool Bool.false)))
 (True ∧
 ((0 : Int) ≤ Go.IntKind.i64.wrap (Pl.varI x - (1 : Int)) ∧ Go.IntKind.i64.wrap (Pl.varI x - (1 : Int)) < (↑v.length : Int)) ∧
 (Go.IntKind.i64.wrap (Pl.varI x - (1 : Int))).toNat < v.length ∧
 K (Cg.AV.v (Go.Value.bool (v.getD (Go.IntKind.i64.wrap (Pl.varI x - (1 : Int))).toNat Bool.false == Decidable.decide (x > (0 : Int)))))))) = awpF Try.prog ([K_within, K_variable]) ([]) Nm.impl_isTrue ([i64 x, bools v]) K := by kernel_rfl

theorem vc_sClauseIs (l : List Int) (v : List Bool) (K : AV → Prop) : ((Exists fun (x : Nat) =>
 (x ≤ l.length ∧ Pl.clauseIs l v = Pl.clauseIs (List.drop x l) v) ∧
 ((l.length = l.length ∧
 (1 : Nat) = (1 : Nat) ∧
 ∀ (i : Nat), i < l.length → ∀ (j : Nat), j < (1 : Nat) → Cg.AV.v (Go.Value.int Go.IntKind.i64 (l.getD i (0 : Int))) = Cg.AV.v (Go.Value.int Go.IntKind.i64 (l.getD i (0 : Int)))) ∧
 (v.length = v.length ∧
 (1 : Nat) = (1 : Nat) ∧ ∀ (i : Nat), i < v.length → ∀ (j : Nat), j < (1 : Nat) → Cg.AV.v (Go.Value.bool (v.getD i Bool.false)) = Cg.AV.v (Go.Value.bool (v.getD i Bool.false))) ∧
 (Go.IntKind.i64 = Go.IntKind.i64 ∧ (0 : Int) = (↑x : Int)) ∧ True) ∧
 True) ∧
 ∀ (x : Nat),
 x ≤ l.length ∧ Pl.clauseIs l v = Pl.clauseIs (List.drop x l) v →
 Cg.condP (Decidable.decide ((↑x : Int) < (↑l.length : Int)))
 (((0 : Int) ≤ (↑x : Int) ∧ (↑x : Int) < (↑l.length : Int)) ∧
 (↑x : Int).toNat < l.length ∧
 Cg.condP (l.getD (↑x : Int).toNat (0 : Int) != (0 : Int))
 (((0 : Int) ≤ (↑x : Int) ∧ (↑x : Int) < (↑l.length : Int)) ∧
 (↑x : Int).toNat < l.length ∧
 True ∧
 (∀ (i : Nat), i < v.length → Cg.AV.v (Go.Value.bool (v.getD i Bool.false)) = Cg.AV.v (Go.Value.bool (Ls.bv (Cg.AV.v (Go.Value.bool (v.getD i Bool.false)))))) ∧
 (Ls.rd Ls.bv v.length fun (i x : Nat) => Cg.AV.v (Go.Value.bool (v.getD i Bool.false))).length ≤ (4294967296 : Nat) ∧
 Cg.condP (Pl.lIs (l.getD (↑x : Int).toNat (0 : Int)) (Ls.rd Ls.bv v.length fun (i x : Nat) => Cg.AV.v (Go.Value.bool (v.getD i Bool.false))))
 (K (Cg.AV.v (Go.Value.bool Bool.true)))
 (Exists fun (x' : Nat) =>
 (x' ≤ l.length ∧ Pl.clauseIs l v = Pl.clauseIs (List.drop x' l) v) ∧
 l.length - x' < l.length - x ∧
 ((l.length = l.length ∧
 (1 : Nat) = (1 : Nat) ∧
 ∀ (i : Nat),
 i < l.length →
 ∀ (j : Nat), j < (1 : Nat) → Cg.AV.v (Go.Value.int Go.IntKind.i64 (l.getD i (0 : Int))) = Cg.AV.v (Go.Value.int Go.IntKind.i64 (l.getD i (0 : Int)))) ∧
 (v.length = v.length ∧
 (1 : Nat) = (1 : Nat) ∧
 ∀ (i : Nat), i < v.length → ∀ (j : Nat), j < (1 : Nat) → Cg.AV.v (Go.Value.bool (v.getD i Bool.false)) = Cg.AV.v (Go.Value.bool (v.getD i Bool.false))) ∧
 (Go.IntKind.i64 = Go.IntKind.i64 ∧ Go.IntKind.i64.wrap ((↑x : Int) + (1 : Int)) = (↑x' : Int)) ∧ True) ∧
 True))
 (Exists fun (x' : Nat) =>
 (x' ≤ l.length ∧ Pl.clauseIs l v = Pl.clauseIs (List.drop x' l) v) ∧
 l.length - x' < l.length - x ∧
 ((l.length = l.length ∧
 (1 : Nat) = (1 : Nat) ∧
 ∀ (i : Nat),
 i < l.length → ∀ (j : Nat), j < (1 : Nat) → Cg.AV.v (Go.Value.int Go.IntKind.i64 (l.getD i (0 : Int))) = Cg.AV.v (Go.Value.int Go.IntKind.i64 (l.getD i (0 : Int)))) ∧
 (v.length = v.length ∧
 (1 : Nat) = (1 : Nat) ∧
 ∀ (i : Nat), i < v.length → ∀ (j : Nat), j < (1 : Nat) → Cg.AV.v (Go.Value.bool (v.getD i Bool.false)) = Cg.AV.v (Go.Value.bool (v.getD i Bool.false))) ∧
 (Go.IntKind.i64 = Go.IntKind.i64 ∧ Go.IntKind.i64.wrap ((↑x : Int) + (1 : Int)) = (↑x' : Int)) ∧ True) ∧
 True))
 (K (Cg.AV.v (Go.Value.bool Bool.false)))) = awpF Try.prog ([K_l10Is]) (A_sClauseIs l v) Nm.spec_ClauseIs ([ints l, bools v]) K := by kernel_rfl

theorem vc_ClauseIs1 (x : Int) (v : List Bool) (K : AV → Prop) : ((0 : Nat) < (1 : Nat) ∧
 True ∧
 (∀ (i : Nat), i < v.length → Cg.AV.v (Go.Value.bool (v.getD i Bool.false)) = Cg.AV.v (Go.Value.bool (Ls.bv (Cg.AV.v (Go.Value.bool (v.getD i Bool.false)))))) ∧
 (Ls.rd Ls.bv v.length fun (i x : Nat) => Cg.AV.v (Go.Value.bool (v.getD i Bool.false))).length ≤ (4294967296 : Nat) ∧
 K (Cg.AV.v (Go.Value.bool (Pl.lIs x (Ls.rd Ls.bv v.length fun (i x : Nat) => Cg.AV.v (Go.Value.bool (v.getD i Bool.false))))))) = awpF Try.prog ([K_isTrue]) ([]) Nm.impl_ClauseIs_1 ([i64 x, ref1 bools v]) K := by kernel_rfl

theorem vc_IndexClauseIs (l : List Int) (v : List Bool) (K : AV → Prop) : ((Exists fun (x : Nat) =>
 (x ≤ l.length ∧
 Pl.idx (fun (x : Int) => Pl.lIs x v) l =
 if Pl.idx (fun (x : Int) => Pl.lIs x v) (List.drop x l) < (0 : Int) then (-1 : Int) else Pl.idx (fun (x : Int) => Pl.lIs x v) (List.drop x l) + (↑x : Int)) ∧
 ((l.length = l.length ∧
 (1 : Nat) = (1 : Nat) ∧
 ∀ (i : Nat), i < l.length → ∀ (j : Nat), j < (1 : Nat) → Cg.AV.v (Go.Value.int Go.IntKind.i64 (l.getD i (0 : Int))) = Cg.AV.v (Go.Value.int Go.IntKind.i64 (l.getD i (0 : Int)))) ∧
 (Go.Fn.func Nm.impl_ClauseIs_1 = Go.Fn.func Nm.impl_ClauseIs_1 ∧
 ((1 : Nat) = (1 : Nat) ∧
 (1 : Nat) = (1 : Nat) ∧
 (0 : Nat) = (0 : Nat) ∧
 (0 : Nat) = (0 : Nat) ∧
 ∀ (i : Nat),
 i < (1 : Nat) →
 ∀ (j : Nat),
 j < (1 : Nat) →
 (Cg.AV.sl v.length (1 : Nat) fun (i x : Nat) => Cg.AV.v (Go.Value.bool (v.getD i Bool.false))) =
 Cg.AV.sl v.length (1 : Nat) fun (i x : Nat) => Cg.AV.v (Go.Value.bool (v.getD i Bool.false))) ∧
 True) ∧
 (Go.IntKind.i64 = Go.IntKind.i64 ∧ (↑l.length : Int) = (↑l.length : Int)) ∧ (Go.IntKind.i64 = Go.IntKind.i64 ∧ (0 : Int) = (↑x : Int)) ∧ True) ∧
 True) ∧
 ∀ (x : Nat),
 (x ≤ l.length ∧
 Pl.idx (fun (x : Int) => Pl.lIs x v) l =
 if Pl.idx (fun (x : Int) => Pl.lIs x v) (List.drop x l) < (0 : Int) then (-1 : Int) else Pl.idx (fun (x : Int) => Pl.lIs x v) (List.drop x l) + (↑x : Int)) →
 Cg.condP (Decidable.decide ((↑x : Int) < (↑l.length : Int)))
 (((0 : Int) ≤ (↑x : Int) ∧ (↑x : Int) < (↑l.length : Int)) ∧
 (↑x : Int).toNat < l.length ∧
 True ∧
 ((Cg.AV.sl v.length (1 : Nat) fun (i x : Nat) => Cg.AV.v (Go.Value.bool (v.getD i Bool.false))) =
 Cg.AV.sl (Ls.lv Ls.bv (Cg.AV.sl v.length (1 : Nat) fun (i x : Nat) => Cg.AV.v (Go.Value.bool (v.getD i Bool.false)))).length (1 : Nat) fun (i x : Nat) =>
 Cg.AV.v (Go.Value.bool ((Ls.lv Ls.bv (Cg.AV.sl v.length (1 : Nat) fun (i x : Nat) => Cg.AV.v (Go.Value.bool (v.getD i Bool.false)))).getD i Bool.false))) ∧
 (Ls.lv Ls.bv (Cg.AV.sl v.length (1 : Nat) fun (i x : Nat) => Cg.AV.v (Go.Value.bool (v.getD i Bool.false)))).length ≤ (4294967296 : Nat) ∧
 Cg.condP (Pl.lIs (l.getD (↑x : Int).toNat (0 : Int)) (Ls.lv Ls.bv (Cg.AV.sl v.length (1 : Nat) fun (i x : Nat) => Cg.AV.v (Go.Value.bool (v.getD i Bool.false)))))
 (K (Cg.AV.v (Go.Value.int Go.IntKind.i64 (↑x : Int))))
 (Exists fun (x' : Nat) =>
 (x' ≤ l.length ∧
 Pl.idx (fun (x : Int) => Pl.lIs x v) l =
 if Pl.idx (fun (x : Int) => Pl.lIs x v) (List.drop x' l) < (0 : Int) then (-1 : Int) else Pl.idx (fun (x : Int) => Pl.lIs x v) (List.drop x' l) + (↑x' : Int)) ∧
 l.length - x' < l.length - x ∧
 ((l.length = l.length ∧
 (1 : Nat) = (1 : Nat) ∧
 ∀ (i : Nat),
 i < l.length →
 ∀ (j : Nat), j < (1 : Nat) → Cg.AV.v (Go.Value.int Go.IntKind.i64 (l.getD i (0 : Int))) = Cg.AV.v (Go.Value.int Go.IntKind.i64 (l.getD i (0 : Int)))) ∧
 (Go.Fn.func Nm.impl_ClauseIs_1 = Go.Fn.func Nm.impl_ClauseIs_1 ∧
 ((1 : Nat) = (1 : Nat) ∧
 (1 : Nat) = (1 : Nat) ∧
 (0 : Nat) = (0 : Nat) ∧
 (0 : Nat) = (0 : Nat) ∧
 ∀ (i : Nat),
 i < (1 : Nat) →
 ∀ (j : Nat),
 j < (1 : Nat) →
 (Cg.AV.sl v.length (1 : Nat) fun (i x : Nat) => Cg.AV.v (Go.Value.bool (v.getD i Bool.false))) =
 Cg.AV.sl v.length (1 : Nat) fun (i x : Nat) => Cg.AV.v (Go.Value.bool (v.getD i Bool.false))) ∧
 True) ∧
 (Go.IntKind.i64 = Go.IntKind.i64 ∧ (↑l.length : Int) = (↑l.length : Int)) ∧
 (Go.IntKind.i64 = Go.IntKind.i64 ∧ Go.IntKind.i64.wrap ((↑x : Int) + (1 : Int)) = (↑x' : Int)) ∧ True) ∧
 True))
 (K (Cg.AV.v (Go.Value.int Go.IntKind.i64 (-1 : Int))))) = awpF Try.prog ([K_ClauseIs1]) (A_IndexClauseIs l v) Nm.slices_IndexFunc_Sint_int ([ints l, fn1 Nm.impl_ClauseIs_1 (ref1 bools) v]) K := by kernel_rfl

theorem vc_ContainsClauseIs (l : List Int) (v : List Bool) (K : AV → Prop) : ((∀ (i : Nat), i < l.length → Cg.AV.v (Go.Value.int Go.IntKind.i64 (l.getD i (0 : Int))) = Cg.AV.v (Go.Value.int Go.IntKind.i64 (Ls.iv (Cg.AV.v (Go.Value.int Go.IntKind.i64 (l.getD i (0 : Int))))))) ∧
 ((Cg.AV.sl v.length (1 : Nat) fun (i x : Nat) => Cg.AV.v (Go.Value.bool (v.getD i Bool.false))) =
 Cg.AV.sl (Ls.lv Ls.bv (Cg.AV.sl v.length (1 : Nat) fun (i x : Nat) => Cg.AV.v (Go.Value.bool (v.getD i Bool.false)))).length (1 : Nat) fun (i x : Nat) =>
 Cg.AV.v (Go.Value.bool ((Ls.lv Ls.bv (Cg.AV.sl v.length (1 : Nat) fun (i x : Nat) => Cg.AV.v (Go.Value.bool (v.getD i Bool.false)))).getD i Bool.false))) ∧
 ((Ls.rd Ls.iv l.length fun (i x : Nat) => Cg.AV.v (Go.Value.int Go.IntKind.i64 (l.getD i (0 : Int)))).length ≤ (4294967296 : Nat) ∧
 (Ls.lv Ls.bv (Cg.AV.sl v.length (1 : Nat) fun (i x : Nat) => Cg.AV.v (Go.Value.bool (v.getD i Bool.false)))).length ≤ (4294967296 : Nat)) ∧
 K
 (Cg.AV.v
 (Go.Value.bool
 (Decidable.decide
 (Pl.idx (fun (x : Int) => Pl.lIs x (Ls.lv Ls.bv (Cg.AV.sl v.length (1 : Nat) fun (i x : Nat) => Cg.AV.v (Go.Value.bool (v.getD i Bool.false)))))
 (Ls.rd Ls.iv l.length fun (i x : Nat) => Cg.AV.v (Go.Value.int Go.IntKind.i64 (l.getD i (0 : Int)))) ≥
 (0 : Int)))))) = awpF Try.prog ([K_IndexClauseIs]) ([]) Nm.slices_ContainsFunc_Sint_int ([ints l, fn1 Nm.impl_ClauseIs_1 (ref1 bools) v]) K := by kernel_rfl

theorem vc_iClauseIs (l : List Int) (v : List Bool) (K : AV → Prop) : ((∀ (i : Nat), i < l.length → Cg.AV.v (Go.Value.int Go.IntKind.i64 (l.getD i (0 : Int))) = Cg.AV.v (Go.Value.int Go.IntKind.i64 (Ls.iv (Cg.AV.v (Go.Value.int Go.IntKind.i64 (l.getD i (0 : Int))))))) ∧
 ((Cg.AV.sl v.length (1 : Nat) fun (i x : Nat) => Cg.AV.v (Go.Value.bool (v.getD i Bool.false))) =
 Cg.AV.sl (Ls.lv Ls.bv (Cg.AV.sl v.length (1 : Nat) fun (i x : Nat) => Cg.AV.v (Go.Value.bool (v.getD i Bool.false)))).length (1 : Nat) fun (i x : Nat) =>
 Cg.AV.v (Go.Value.bool ((Ls.lv Ls.bv (Cg.AV.sl v.length (1 : Nat) fun (i x : Nat) => Cg.AV.v (Go.Value.bool (v.getD i Bool.false)))).getD i Bool.false))) ∧
 ((Ls.rd Ls.iv l.length fun (i x : Nat) => Cg.AV.v (Go.Value.int Go.IntKind.i64 (l.getD i (0 : Int)))).length ≤ (4294967296 : Nat) ∧
 (Ls.lv Ls.bv (Cg.AV.sl v.length (1 : Nat) fun (i x : Nat) => Cg.AV.v (Go.Value.bool (v.getD i Bool.false)))).length ≤ (4294967296 : Nat)) ∧
 K
 (Cg.AV.v
 (Go.Value.bool
 (Pl.clauseIs (Ls.rd Ls.iv l.length fun (i x : Nat) => Cg.AV.v (Go.Value.int Go.IntKind.i64 (l.getD i (0 : Int))))
 (Ls.lv Ls.bv (Cg.AV.sl v.length (1 : Nat) fun (i x : Nat) => Cg.AV.v (Go.Value.bool (v.getD i Bool.false)))))))) = awpF Try.prog ([K_ContainsClauseIs]) ([]) Nm.impl_ClauseIs ([ints l, bools v]) K := by kernel_rfl

theorem vc_xClauseIs (l : List Int) (v : List Bool) (K : AV → Prop) : (Cg.condP (Decidable.decide ((↑l.length : Int) > (1048576 : Int))) (K (Cg.AV.v (Go.Value.bool Bool.true)))
 (Cg.condP (Decidable.decide ((↑v.length : Int) > (1048576 : Int))) (K (Cg.AV.v (Go.Value.bool Bool.true)))
 ((∀ (i : Nat),
 i < l.length → Cg.AV.v (Go.Value.int Go.IntKind.i64 (l.getD i (0 : Int))) = Cg.AV.v (Go.Value.int Go.IntKind.i64 (Ls.iv (Cg.AV.v (Go.Value.int Go.IntKind.i64 (l.getD i (0 : Int))))))) ∧
 (Ls.rd Ls.iv l.length fun (i x : Nat) => Cg.AV.v (Go.Value.int Go.IntKind.i64 (l.getD i (0 : Int)))).length ≤ (4294967296 : Nat) ∧
 (∀ (i : Nat), i < v.length → Cg.AV.v (Go.Value.bool (v.getD i Bool.false)) = Cg.AV.v (Go.Value.bool (Ls.bv (Cg.AV.v (Go.Value.bool (v.getD i Bool.false)))))) ∧
 (Ls.rd Ls.bv v.length fun (i x : Nat) => Cg.AV.v (Go.Value.bool (v.getD i Bool.false))).length ≤ (4294967296 : Nat) ∧
 (∀ (i : Nat),
 i < (Ls.rd Ls.iv l.length fun (i x : Nat) => Cg.AV.v (Go.Value.int Go.IntKind.i64 (l.getD i (0 : Int)))).length →
 Cg.AV.v (Go.Value.int Go.IntKind.i64 ((Ls.rd Ls.iv l.length fun (i x : Nat) => Cg.AV.v (Go.Value.int Go.IntKind.i64 (l.getD i (0 : Int)))).getD i (0 : Int))) =
 Cg.AV.v
 (Go.Value.int Go.IntKind.i64
 (Ls.iv (Cg.AV.v (Go.Value.int Go.IntKind.i64 ((Ls.rd Ls.iv l.length fun (i x : Nat) => Cg.AV.v (Go.Value.int Go.IntKind.i64 (l.getD i (0 : Int)))).getD i (0 : Int))))))) ∧
 (∀ (i : Nat),
 i < (Ls.rd Ls.bv v.length fun (i x : Nat) => Cg.AV.v (Go.Value.bool (v.getD i Bool.false))).length →
 Cg.AV.v (Go.Value.bool ((Ls.rd Ls.bv v.length fun (i x : Nat) => Cg.AV.v (Go.Value.bool (v.getD i Bool.false))).getD i Bool.false)) =
 Cg.AV.v (Go.Value.bool (Ls.bv (Cg.AV.v (Go.Value.bool ((Ls.rd Ls.bv v.length fun (i x : Nat) => Cg.AV.v (Go.Value.bool (v.getD i Bool.false))).getD i Bool.false)))))) ∧
 ((Ls.rd Ls.iv (Ls.rd Ls.iv l.length fun (i x : Nat) => Cg.AV.v (Go.Value.int Go.IntKind.i64 (l.getD i (0 : Int)))).length fun (i x : Nat) =>
 Cg.AV.v (Go.Value.int Go.IntKind.i64 ((Ls.rd Ls.iv l.length fun (i x : Nat) => Cg.AV.v (Go.Value.int Go.IntKind.i64 (l.getD i (0 : Int)))).getD i (0 : Int)))).length ≤
 (4294967296 : Nat) ∧
 (Ls.rd Ls.bv (Ls.rd Ls.bv v.length fun (i x : Nat) => Cg.AV.v (Go.Value.bool (v.getD i Bool.false))).length fun (i x : Nat) =>
 Cg.AV.v (Go.Value.bool ((Ls.rd Ls.bv v.length fun (i x : Nat) => Cg.AV.v (Go.Value.bool (v.getD i Bool.false))).getD i Bool.false))).length ≤
 (4294967296 : Nat)) ∧
 (∀ (i : Nat),
 i < l.length →
 Cg.AV.v (Go.Value.int Go.IntKind.i64 (l.getD i (0 : Int))) = Cg.AV.v (Go.Value.int Go.IntKind.i64 (Ls.iv (Cg.AV.v (Go.Value.int Go.IntKind.i64 (l.getD i (0 : Int))))))) ∧
 (Ls.rd Ls.iv l.length fun (i x : Nat) => Cg.AV.v (Go.Value.int Go.IntKind.i64 (l.getD i (0 : Int)))).length ≤ (4294967296 : Nat) ∧
 (∀ (i : Nat), i < v.length → Cg.AV.v (Go.Value.bool (v.getD i Bool.false)) = Cg.AV.v (Go.Value.bool (Ls.bv (Cg.AV.v (Go.Value.bool (v.getD i Bool.false)))))) ∧
 (Ls.rd Ls.bv v.length fun (i x : Nat) => Cg.AV.v (Go.Value.bool (v.getD i Bool.false))).length ≤ (4294967296 : Nat) ∧
 (∀ (i : Nat),
 i < (Ls.rd Ls.iv l.length fun (i x : Nat) => Cg.AV.v (Go.Value.int Go.IntKind.i64 (l.getD i (0 : Int)))).length →
 Cg.AV.v (Go.Value.int Go.IntKind.i64 ((Ls.rd Ls.iv l.length fun (i x : Nat) => Cg.AV.v (Go.Value.int Go.IntKind.i64 (l.getD i (0 : Int)))).getD i (0 : Int))) =
 Cg.AV.v
 (Go.Value.int Go.IntKind.i64
 (Ls.iv
 (Cg.AV.v
 (Go.Value.int Go.IntKind.i64 ((Ls.rd Ls.iv l.length fun (i x : Nat) => Cg.AV.v (Go.Value.int Go.IntKind.i64 (l.getD i (0 : Int)))).getD i (0 : Int))))))) ∧
 (∀ (i : Nat),
 i < (Ls.rd Ls.bv v.length fun (i x : Nat) => Cg.AV.v (Go.Value.bool (v.getD i Bool.false))).length →
 Cg.AV.v (Go.Value.bool ((Ls.rd Ls.bv v.length fun (i x : Nat) => Cg.AV.v (Go.Value.bool (v.getD i Bool.false))).getD i Bool.false)) =
 Cg.AV.v
 (Go.Value.bool (Ls.bv (Cg.AV.v (Go.Value.bool ((Ls.rd Ls.bv v.length fun (i x : Nat) => Cg.AV.v (Go.Value.bool (v.getD i Bool.false))).getD i Bool.false)))))) ∧
 ((Ls.rd Ls.iv (Ls.rd Ls.iv l.length fun (i x : Nat) => Cg.AV.v (Go.Value.int Go.IntKind.i64 (l.getD i (0 : Int)))).length fun (i x : Nat) =>
 Cg.AV.v
 (Go.Value.int Go.IntKind.i64
 ((Ls.rd Ls.iv l.length fun (i x : Nat) => Cg.AV.v (Go.Value.int Go.IntKind.i64 (l.getD i (0 : Int)))).getD i (0 : Int)))).length ≤
 (4294967296 : Nat) ∧
 (Ls.rd Ls.bv (Ls.rd Ls.bv v.length fun (i x : Nat) => Cg.AV.v (Go.Value.bool (v.getD i Bool.false))).length fun (i x : Nat) =>
 Cg.AV.v (Go.Value.bool ((Ls.rd Ls.bv v.length fun (i x : Nat) => Cg.AV.v (Go.Value.bool (v.getD i Bool.false))).getD i Bool.false))).length ≤
 (4294967296 : Nat)) ∧
 Cg.condP
 (!Pl.clauseIs
 (Ls.rd Ls.iv (Ls.rd Ls.iv l.length fun (i x : Nat) => Cg.AV.v (Go.Value.int Go.IntKind.i64 (l.getD i (0 : Int)))).length fun (i x : Nat) =>
 Cg.AV.v (Go.Value.int Go.IntKind.i64 ((Ls.rd Ls.iv l.length fun (i x : Nat) => Cg.AV.v (Go.Value.int Go.IntKind.i64 (l.getD i (0 : Int)))).getD i (0 : Int))))
 (Ls.rd Ls.bv (Ls.rd Ls.bv v.length fun (i x : Nat) => Cg.AV.v (Go.Value.bool (v.getD i Bool.false))).length fun (i x : Nat) =>
 Cg.AV.v (Go.Value.bool ((Ls.rd Ls.bv v.length fun (i x : Nat) => Cg.AV.v (Go.Value.bool (v.getD i Bool.false))).getD i Bool.false))) ==
 Pl.clauseIs
 (Ls.rd Ls.iv (Ls.rd Ls.iv l.length fun (i x : Nat) => Cg.AV.v (Go.Value.int Go.IntKind.i64 (l.getD i (0 : Int)))).length fun (i x : Nat) =>
 Cg.AV.v (Go.Value.int Go.IntKind.i64 ((Ls.rd Ls.iv l.length fun (i x : Nat) => Cg.AV.v (Go.Value.int Go.IntKind.i64 (l.getD i (0 : Int)))).getD i (0 : Int))))
 (Ls.rd Ls.bv (Ls.rd Ls.bv v.length fun (i x : Nat) => Cg.AV.v (Go.Value.bool (v.getD i Bool.false))).length fun (i x : Nat) =>
 Cg.AV.v (Go.Value.bool ((Ls.rd Ls.bv v.length fun (i x : Nat) => Cg.AV.v (Go.Value.bool (v.getD i Bool.false))).getD i Bool.false))))
 (K (Cg.AV.v (Go.Value.bool Bool.false)))
 ((∀ (i : Nat),
 i < l.length →
 Cg.AV.v (Go.Value.int Go.IntKind.i64 (l.getD i (0 : Int))) =
 Cg.AV.v (Go.Value.int Go.IntKind.i64 (Ls.iv (Cg.AV.v (Go.Value.int Go.IntKind.i64 (l.getD i (0 : Int))))))) ∧
 (Ls.rd Ls.iv l.length fun (i x : Nat) => Cg.AV.v (Go.Value.int Go.IntKind.i64 (l.getD i (0 : Int)))).length ≤ (4294967296 : Nat) ∧
 (∀ (i : Nat),
 i < (Ls.rd Ls.iv l.length fun (i x : Nat) => Cg.AV.v (Go.Value.int Go.IntKind.i64 (l.getD i (0 : Int)))).length →
 Cg.AV.v
 (Go.Value.int Go.IntKind.i64 ((Ls.rd Ls.iv l.length fun (i x : Nat) => Cg.AV.v (Go.Value.int Go.IntKind.i64 (l.getD i (0 : Int)))).getD i (0 : Int))) =
 Cg.AV.v
 (Go.Value.int Go.IntKind.i64
 (Ls.iv
 (Cg.AV.v
 (Go.Value.int Go.IntKind.i64
 ((Ls.rd Ls.iv l.length fun (i x : Nat) => Cg.AV.v (Go.Value.int Go.IntKind.i64 (l.getD i (0 : Int)))).getD i (0 : Int))))))) ∧
 (∀ (i : Nat),
 i < (Ls.rd Ls.iv l.length fun (i x : Nat) => Cg.AV.v (Go.Value.int Go.IntKind.i64 (l.getD i (0 : Int)))).length →
 Cg.AV.v
 (Go.Value.int Go.IntKind.i64
 ((Ls.rd Ls.iv l.length fun (i x : Nat) => Cg.AV.v (Go.Value.int Go.IntKind.i64 (l.getD i (0 : Int)))).getD i (0 : Int))) =
 Cg.AV.v
 (Go.Value.int Go.IntKind.i64
 (Ls.iv
 (Cg.AV.v
 (Go.Value.int Go.IntKind.i64
 ((Ls.rd Ls.iv l.length fun (i x : Nat) => Cg.AV.v (Go.Value.int Go.IntKind.i64 (l.getD i (0 : Int)))).getD i (0 : Int))))))) ∧
 (Ls.rd Ls.iv (Ls.rd Ls.iv l.length fun (i x : Nat) => Cg.AV.v (Go.Value.int Go.IntKind.i64 (l.getD i (0 : Int)))).length fun (i x : Nat) =>
 Cg.AV.v
 (Go.Value.int Go.IntKind.i64
 ((Ls.rd Ls.iv l.length fun (i x : Nat) => Cg.AV.v (Go.Value.int Go.IntKind.i64 (l.getD i (0 : Int)))).getD i (0 : Int)))).length ≤
 (4294967296 : Nat) ∧
 Cg.condP
 (!Decidable.decide
 ((Ls.rd Ls.iv (Ls.rd Ls.iv l.length fun (i x : Nat) => Cg.AV.v (Go.Value.int Go.IntKind.i64 (l.getD i (0 : Int)))).length fun (i x : Nat) =>
 Cg.AV.v
 (Go.Value.int Go.IntKind.i64
 ((Ls.rd Ls.iv l.length fun (i x : Nat) => Cg.AV.v (Go.Value.int Go.IntKind.i64 (l.getD i (0 : Int)))).getD i (0 : Int)))) =
 Ls.rd Ls.iv (Ls.rd Ls.iv l.length fun (i x : Nat) => Cg.AV.v (Go.Value.int Go.IntKind.i64 (l.getD i (0 : Int)))).length fun (i x : Nat) =>
 Cg.AV.v
 (Go.Value.int Go.IntKind.i64
 ((Ls.rd Ls.iv l.length fun (i x : Nat) => Cg.AV.v (Go.Value.int Go.IntKind.i64 (l.getD i (0 : Int)))).getD i (0 : Int)))))
 (K (Cg.AV.v (Go.Value.bool Bool.false)))
 ((∀ (i : Nat),
 i < v.length → Cg.AV.v (Go.Value.bool (v.getD i Bool.false)) = Cg.AV.v (Go.Value.bool (Ls.bv (Cg.AV.v (Go.Value.bool (v.getD i Bool.false)))))) ∧
 (Ls.rd Ls.bv v.length fun (i x : Nat) => Cg.AV.v (Go.Value.bool (v.getD i Bool.false))).length ≤ (4294967296 : Nat) ∧
 (∀ (i : Nat),
 i < (Ls.rd Ls.bv v.length fun (i x : Nat) => Cg.AV.v (Go.Value.bool (v.getD i Bool.false))).length →
 Cg.AV.v (Go.Value.bool ((Ls.rd Ls.bv v.length fun (i x : Nat) => Cg.AV.v (Go.Value.bool (v.getD i Bool.false))).getD i Bool.false)) =
 Cg.AV.v
 (Go.Value.bool
 (Ls.bv
 (Cg.AV.v
 (Go.Value.bool ((Ls.rd Ls.bv v.length fun (i x : Nat) => Cg.AV.v (Go.Value.bool (v.getD i Bool.false))).getD i Bool.false)))))) ∧
 (∀ (i : Nat),
 i < (Ls.rd Ls.bv v.length fun (i x : Nat) => Cg.AV.v (Go.Value.bool (v.getD i Bool.false))).length →
 Cg.AV.v (Go.Value.bool ((Ls.rd Ls.bv v.length fun (i x : Nat) => Cg.AV.v (Go.Value.bool (v.getD i Bool.false))).getD i Bool.false)) =
 Cg.AV.v
 (Go.Value.bool
 (Ls.bv
 (Cg.AV.v
 (Go.Value.bool ((Ls.rd Ls.bv v.length fun (i x : Nat) => Cg.AV.v (Go.Value.bool (v.getD i Bool.false))).getD i Bool.false)))))) ∧
 (Ls.rd Ls.bv (Ls.rd Ls.bv v.length fun (i x : Nat) => Cg.AV.v (Go.Value.bool (v.getD i Bool.false))).length fun (i x : Nat) =>
 Cg.AV.v
 (Go.Value.bool ((Ls.rd Ls.bv v.length fun (i x : Nat) => Cg.AV.v (Go.Value.bool (v.getD i Bool.false))).getD i Bool.false))).length ≤
 (4294967296 : Nat) ∧
 Cg.condP
 (!Decidable.decide
 ((Ls.rd Ls.bv (Ls.rd Ls.bv v.length fun (i x : Nat) => Cg.AV.v (Go.Value.bool (v.getD i Bool.false))).length fun (i x : Nat) =>
 Cg.AV.v (Go.Value.bool ((Ls.rd Ls.bv v.length fun (i x : Nat) => Cg.AV.v (Go.Value.bool (v.getD i Bool.false))).getD i Bool.false))) =
 Ls.rd Ls.bv (Ls.rd Ls.bv v.length fun (i x : Nat) => Cg.AV.v (Go.Value.bool (v.getD i Bool.false))).length fun (i x : Nat) =>
 Cg.AV.v (Go.Value.bool ((Ls.rd Ls.bv v.length fun (i x : Nat) => Cg.AV.v (Go.Value.bool (v.getD i Bool.false))).getD i Bool.false))))
 (K (Cg.AV.v (Go.Value.bool Bool.false))) (K (Cg.AV.v (Go.Value.bool Bool.true)))))))) = awpF Try.prog ([K_toIntS, K_toBoolS, K_sClauseIs, K_iClauseIs, K_eqIntS, K_eqBoolS]) ([]) Nm.laws_FnExactClauseIs ([ints l, bools v]) K := by kernel_rfl

end Cg
