/-
  What is left to show of each function's code, printed by a program: Rows. No condition.
-/
import Derived.Test.YtdlmjdnjenhnfaaRowsDefs
import Derived.Test.YtdlmjdnjenhnfaaProg
set_option maxRecDepth 100000
set_option linter.unusedVariables false
namespace Cg
open Go Go.Proofs
theorem vc_szIntS (l : List Int) (k : Int) (K : AV → Prop) : (Cg.condP (Decidable.decide (Go.IntKind.i64.wrap (k - (↑l.length : Int)) < (0 : Int))) (K (Cg.AV.v (Go.Value.int Go.IntKind.i64 (-1 : Int))))
 (K (Cg.AV.v (Go.Value.int Go.IntKind.i64 (Go.IntKind.i64.wrap (k - (↑l.length : Int))))))) = awpF Try.prog ([]) ([]) Nm.laws_szIntS ([ints l, i64 k]) K := by kernel_rfl

theorem vc_szIntSS (l : List (List Int)) (k : Int) (K : AV → Prop) : (Cg.condP (Decidable.decide (Go.IntKind.i64.wrap (k - (↑l.length : Int)) < (0 : Int))) (K (Cg.AV.v (Go.Value.int Go.IntKind.i64 (-1 : Int))))
 ((Exists fun (x : Nat × Int) =>
 (x.fst ≤ l.length ∧ (0 : Int) ≤ x.snd ∧ x.snd ≤ (1048576 : Int) ∧ Pl.szSS l k = Pl.szL (List.drop x.fst l) x.snd) ∧
 ((l.length = l.length ∧
 (1 : Nat) = (1 : Nat) ∧
 ∀ (i : Nat),
 i < l.length →
 ∀ (j : Nat),
 j < (1 : Nat) →
 (Cg.AV.sl (l.getD i []).length (1 : Nat) fun (i_1 x : Nat) => Cg.AV.v (Go.Value.int Go.IntKind.i64 ((l.getD i []).getD i_1 (0 : Int)))) =
 Cg.AV.sl (l.getD i []).length (1 : Nat) fun (i_1 x : Nat) => Cg.AV.v (Go.Value.int Go.IntKind.i64 ((l.getD i []).getD i_1 (0 : Int)))) ∧
 (Go.IntKind.i64 = Go.IntKind.i64 ∧ Go.IntKind.i64.wrap (k - (↑l.length : Int)) = x.snd) ∧ (Go.IntKind.i64 = Go.IntKind.i64 ∧ (0 : Int) = (↑x.fst : Int)) ∧ True) ∧
 True) ∧
 ∀ (x : Nat × Int),
 x.fst ≤ l.length ∧ (0 : Int) ≤ x.snd ∧ x.snd ≤ (1048576 : Int) ∧ Pl.szSS l k = Pl.szL (List.drop x.fst l) x.snd →
 Cg.condP (Decidable.decide ((↑x.fst : Int) < (↑l.length : Int)))
 (((0 : Int) ≤ (↑x.fst : Int) ∧ (↑x.fst : Int) < (↑l.length : Int)) ∧
 (↑x.fst : Int).toNat < l.length ∧
 (∀ (i : Nat),
 i < (l.getD (↑x.fst : Int).toNat []).length →
 Cg.AV.v (Go.Value.int Go.IntKind.i64 ((l.getD (↑x.fst : Int).toNat []).getD i (0 : Int))) =
 Cg.AV.v (Go.Value.int Go.IntKind.i64 (Ls.iv (Cg.AV.v (Go.Value.int Go.IntKind.i64 ((l.getD (↑x.fst : Int).toNat []).getD i (0 : Int))))))) ∧
 True ∧
 ((Ls.rd Ls.iv (l.getD (↑x.fst : Int).toNat []).length fun (i x_1 : Nat) => Cg.AV.v (Go.Value.int Go.IntKind.i64 ((l.getD (↑x.fst : Int).toNat []).getD i (0 : Int)))).length ≤
 (9223372036854775807 : Nat) ∧
 (0 : Int) ≤ x.snd ∧ x.snd ≤ (1048576 : Int)) ∧
 Cg.condP
 (Decidable.decide
 (Pl.sz1
 (Ls.rd Ls.iv (l.getD (↑x.fst : Int).toNat []).length fun (i x_1 : Nat) => Cg.AV.v (Go.Value.int Go.IntKind.i64 ((l.getD (↑x.fst : Int).toNat []).getD i (0 : Int)))).length
 x.snd <
 (0 : Int)))
 (K (Cg.AV.v (Go.Value.int Go.IntKind.i64 (-1 : Int))))
 (Exists fun (x' : Nat × Int) =>
 (x'.fst ≤ l.length ∧ (0 : Int) ≤ x'.snd ∧ x'.snd ≤ (1048576 : Int) ∧ Pl.szSS l k = Pl.szL (List.drop x'.fst l) x'.snd) ∧
 l.length - x'.fst < l.length - x.fst ∧
 ((l.length = l.length ∧
 (1 : Nat) = (1 : Nat) ∧
 ∀ (i : Nat),
 i < l.length →
 ∀ (j : Nat),
 j < (1 : Nat) →
 (Cg.AV.sl (l.getD i []).length (1 : Nat) fun (i_1 x : Nat) => Cg.AV.v (Go.Value.int Go.IntKind.i64 ((l.getD i []).getD i_1 (0 : Int)))) =
 Cg.AV.sl (l.getD i []).length (1 : Nat) fun (i_1 x : Nat) => Cg.AV.v (Go.Value.int Go.IntKind.i64 ((l.getD i []).getD i_1 (0 : Int)))) ∧
 (Go.IntKind.i64 = Go.IntKind.i64 ∧
 Pl.sz1
 (Ls.rd Ls.iv (l.getD (↑x.fst : Int).toNat []).length fun (i x_1 : Nat) =>
 Cg.AV.v (Go.Value.int Go.IntKind.i64 ((l.getD (↑x.fst : Int).toNat []).getD i (0 : Int)))).length
 x.snd =
 x'.snd) ∧
 (Go.IntKind.i64 = Go.IntKind.i64 ∧ Go.IntKind.i64.wrap ((↑x.fst : Int) + (1 : Int)) = (↑x'.fst : Int)) ∧ True) ∧
 True))
 (K (Cg.AV.v (Go.Value.int Go.IntKind.i64 x.snd))))) = awpF Try.prog ([K_szIntS]) (A_szIntSS l k) Nm.laws_szIntSS ([intss l, i64 k]) K := by kernel_rfl

theorem vc_toIntSS (l : List (List Int)) (K : AV → Prop) : ((0 : Int) ≤ (↑l.length : Int) ∧
 (↑l.length : Int) ≤ (↑l.length : Int) ∧
 (↑(24 : Nat) : Int) * (↑l.length : Int) ≤ (140737488355328 : Int) ∧
 (↑l.length : Int) ≤ (140737488355328 : Int) ∧
 (Exists fun (x : Nat) =>
 x ≤ l.length ∧
 ((l.length = l.length ∧
 (1 : Nat) = (1 : Nat) ∧
 ∀ (i : Nat),
 i < l.length →
 ∀ (j : Nat),
 j < (1 : Nat) →
 (Cg.AV.sl (l.getD i []).length (1 : Nat) fun (i_1 x : Nat) => Cg.AV.v (Go.Value.int Go.IntKind.i64 ((l.getD i []).getD i_1 (0 : Int)))) =
 Cg.AV.sl (l.getD i []).length (1 : Nat) fun (i_1 x : Nat) => Cg.AV.v (Go.Value.int Go.IntKind.i64 ((l.getD i []).getD i_1 (0 : Int)))) ∧
 ((0 : Nat) = (0 : Nat) ∧ (0 : Nat) = (0 : Nat) ∧ (↑l.length : Int).toNat = l.length) ∧ (Go.IntKind.i64 = Go.IntKind.i64 ∧ (0 : Int) = (↑x : Int)) ∧ True) ∧
 ((↑l.length : Int).toNat = l.length ∧
 (1 : Nat) = (1 : Nat) ∧
 ∀ (i : Nat),
 i < (↑l.length : Int).toNat →
 ∀ (j : Nat),
 j < (1 : Nat) →
 [Cg.AV.lit (0 : Nat) (1 : Nat) fun (x x_1 : Nat) => Cg.AV.any].getD j Cg.AV.any =
 if i < x then Cg.AV.sl (l.getD i []).length (1 : Nat) fun (i_1 x : Nat) => Cg.AV.v (Go.Value.int Go.IntKind.i64 ((l.getD i []).getD i_1 (0 : Int)))
 else Cg.AV.lit (0 : Nat) (1 : Nat) fun (x x_1 : Nat) => Cg.AV.any) ∧
 True) ∧
 ∀ (x : Nat),
 x ≤ l.length →
 Cg.condP (Decidable.decide ((↑x : Int) < (↑l.length : Int)))
 (((0 : Int) ≤ (↑x : Int) ∧ (↑x : Int) < (↑l.length : Int)) ∧
 (↑x : Int).toNat < l.length ∧
 (∀ (i : Nat),
 i < (l.getD (↑x : Int).toNat []).length →
 Cg.AV.v (Go.Value.int Go.IntKind.i64 ((l.getD (↑x : Int).toNat []).getD i (0 : Int))) =
 Cg.AV.v (Go.Value.int Go.IntKind.i64 (Ls.iv (Cg.AV.v (Go.Value.int Go.IntKind.i64 ((l.getD (↑x : Int).toNat []).getD i (0 : Int))))))) ∧
 (Ls.rd Ls.iv (l.getD (↑x : Int).toNat []).length fun (i x_1 : Nat) => Cg.AV.v (Go.Value.int Go.IntKind.i64 ((l.getD (↑x : Int).toNat []).getD i (0 : Int)))).length ≤
 (4294967296 : Nat) ∧
 ((0 : Int) ≤ (↑x : Int) ∧ (↑x : Int) < (↑l.length : Int)) ∧
 (↑x : Int).toNat + (0 : Nat) < l.length ∧
 Exists fun (x' : Nat) =>
 x' ≤ l.length ∧
 l.length - x' < l.length - x ∧
 ((l.length = l.length ∧
 (1 : Nat) = (1 : Nat) ∧
 ∀ (i : Nat),
 i < l.length →
 ∀ (j : Nat),
 j < (1 : Nat) →
 (Cg.AV.sl (l.getD i []).length (1 : Nat) fun (i_1 x : Nat) => Cg.AV.v (Go.Value.int Go.IntKind.i64 ((l.getD i []).getD i_1 (0 : Int)))) =
 Cg.AV.sl (l.getD i []).length (1 : Nat) fun (i_1 x : Nat) => Cg.AV.v (Go.Value.int Go.IntKind.i64 ((l.getD i []).getD i_1 (0 : Int)))) ∧
 ((0 : Nat) = (0 : Nat) ∧ (0 : Nat) = (0 : Nat) ∧ l.length = l.length) ∧
 (Go.IntKind.i64 = Go.IntKind.i64 ∧ Go.IntKind.i64.wrap ((↑x : Int) + (1 : Int)) = (↑x' : Int)) ∧ True) ∧
 (l.length = l.length ∧
 (1 : Nat) = (1 : Nat) ∧
 ∀ (i : Nat),
 i < l.length →
 ∀ (j : Nat),
 j < (1 : Nat) →
 Cg.storeC
 (fun (i x_1 : Nat) =>
 if i < x then
 Cg.AV.sl (l.getD i []).length (1 : Nat) fun (i_1 x : Nat) => Cg.AV.v (Go.Value.int Go.IntKind.i64 ((l.getD i []).getD i_1 (0 : Int)))
 else Cg.AV.lit (0 : Nat) (1 : Nat) fun (x x_2 : Nat) => Cg.AV.any)
 ((↑x : Int).toNat + (0 : Nat)) (0 : Nat)
 [Cg.AV.sl
 (Ls.rd Ls.iv (l.getD (↑x : Int).toNat []).length fun (i x_1 : Nat) =>
 Cg.AV.v (Go.Value.int Go.IntKind.i64 ((l.getD (↑x : Int).toNat []).getD i (0 : Int)))).length
 (1 : Nat) fun (i x_1 : Nat) =>
 Cg.AV.v
 (Go.Value.int Go.IntKind.i64
 ((Ls.rd Ls.iv (l.getD (↑x : Int).toNat []).length fun (i x_2 : Nat) =>
 Cg.AV.v (Go.Value.int Go.IntKind.i64 ((l.getD (↑x : Int).toNat []).getD i (0 : Int)))).getD
 i (0 : Int)))]
 i j =
 if i < x' then Cg.AV.sl (l.getD i []).length (1 : Nat) fun (i_1 x : Nat) => Cg.AV.v (Go.Value.int Go.IntKind.i64 ((l.getD i []).getD i_1 (0 : Int)))
 else Cg.AV.lit (0 : Nat) (1 : Nat) fun (x x_1 : Nat) => Cg.AV.any) ∧
 True)
 ((0 : Nat) + l.length ≤ l.length ∧
 K
 (Cg.AV.sl l.length (1 : Nat) fun (i j : Nat) =>
 if i + (0 : Nat) < x then
 Cg.AV.sl (l.getD (i + (0 : Nat)) []).length (1 : Nat) fun (i_1 x : Nat) => Cg.AV.v (Go.Value.int Go.IntKind.i64 ((l.getD (i + (0 : Nat)) []).getD i_1 (0 : Int)))
 else Cg.AV.lit (0 : Nat) (1 : Nat) fun (x x_1 : Nat) => Cg.AV.any))) = awpF Try.prog ([K_toIntS]) (A_toIntSS l) Nm.laws_toIntSS ([intss l]) K := by kernel_rfl

theorem vc_eqIntSS (l m : List (List Int)) (K : AV → Prop) : (Cg.condP ((↑l.length : Int) != (↑m.length : Int)) (K (Cg.AV.v (Go.Value.bool Bool.false)))
 ((Exists fun (x : Nat) =>
 (x ≤ l.length ∧ l.length = m.length ∧ (l = m ↔ List.drop x l = List.drop x m)) ∧
 ((l.length = l.length ∧
 (1 : Nat) = (1 : Nat) ∧
 ∀ (i : Nat),
 i < l.length →
 ∀ (j : Nat),
 j < (1 : Nat) →
 (Cg.AV.sl (l.getD i []).length (1 : Nat) fun (i_1 x : Nat) => Cg.AV.v (Go.Value.int Go.IntKind.i64 ((l.getD i []).getD i_1 (0 : Int)))) =
 Cg.AV.sl (l.getD i []).length (1 : Nat) fun (i_1 x : Nat) => Cg.AV.v (Go.Value.int Go.IntKind.i64 ((l.getD i []).getD i_1 (0 : Int)))) ∧
 (m.length = m.length ∧
 (1 : Nat) = (1 : Nat) ∧
 ∀ (i : Nat),
 i < m.length →
 ∀ (j : Nat),
 j < (1 : Nat) →
 (Cg.AV.sl (m.getD i []).length (1 : Nat) fun (i_1 x : Nat) => Cg.AV.v (Go.Value.int Go.IntKind.i64 ((m.getD i []).getD i_1 (0 : Int)))) =
 Cg.AV.sl (m.getD i []).length (1 : Nat) fun (i_1 x : Nat) => Cg.AV.v (Go.Value.int Go.IntKind.i64 ((m.getD i []).getD i_1 (0 : Int)))) ∧
 (Go.IntKind.i64 = Go.IntKind.i64 ∧ (0 : Int) = (↑x : Int)) ∧ True) ∧
 True) ∧
 ∀ (x : Nat),
 x ≤ l.length ∧ l.length = m.length ∧ (l = m ↔ List.drop x l = List.drop x m) →
 Cg.condP (Decidable.decide ((↑x : Int) < (↑l.length : Int)))
 (((0 : Int) ≤ (↑x : Int) ∧ (↑x : Int) < (↑l.length : Int)) ∧
 (↑x : Int).toNat < l.length ∧
 ((0 : Int) ≤ (↑x : Int) ∧ (↑x : Int) < (↑m.length : Int)) ∧
 (↑x : Int).toNat < m.length ∧
 (∀ (i : Nat),
 i < (l.getD (↑x : Int).toNat []).length →
 Cg.AV.v (Go.Value.int Go.IntKind.i64 ((l.getD (↑x : Int).toNat []).getD i (0 : Int))) =
 Cg.AV.v (Go.Value.int Go.IntKind.i64 (Ls.iv (Cg.AV.v (Go.Value.int Go.IntKind.i64 ((l.getD (↑x : Int).toNat []).getD i (0 : Int))))))) ∧
 (∀ (i : Nat),
 i < (m.getD (↑x : Int).toNat []).length →
 Cg.AV.v (Go.Value.int Go.IntKind.i64 ((m.getD (↑x : Int).toNat []).getD i (0 : Int))) =
 Cg.AV.v (Go.Value.int Go.IntKind.i64 (Ls.iv (Cg.AV.v (Go.Value.int Go.IntKind.i64 ((m.getD (↑x : Int).toNat []).getD i (0 : Int))))))) ∧
 (Ls.rd Ls.iv (l.getD (↑x : Int).toNat []).length fun (i x_1 : Nat) => Cg.AV.v (Go.Value.int Go.IntKind.i64 ((l.getD (↑x : Int).toNat []).getD i (0 : Int)))).length ≤
 (4294967296 : Nat) ∧
 Cg.condP
 (!Decidable.decide
 ((Ls.rd Ls.iv (l.getD (↑x : Int).toNat []).length fun (i x_1 : Nat) => Cg.AV.v (Go.Value.int Go.IntKind.i64 ((l.getD (↑x : Int).toNat []).getD i (0 : Int)))) =
 Ls.rd Ls.iv (m.getD (↑x : Int).toNat []).length fun (i x_1 : Nat) => Cg.AV.v (Go.Value.int Go.IntKind.i64 ((m.getD (↑x : Int).toNat []).getD i (0 : Int)))))
 (K (Cg.AV.v (Go.Value.bool Bool.false)))
 (Exists fun (x' : Nat) =>
 (x' ≤ l.length ∧ l.length = m.length ∧ (l = m ↔ List.drop x' l = List.drop x' m)) ∧
 l.length - x' < l.length - x ∧
 ((l.length = l.length ∧
 (1 : Nat) = (1 : Nat) ∧
 ∀ (i : Nat),
 i < l.length →
 ∀ (j : Nat),
 j < (1 : Nat) →
 (Cg.AV.sl (l.getD i []).length (1 : Nat) fun (i_1 x : Nat) => Cg.AV.v (Go.Value.int Go.IntKind.i64 ((l.getD i []).getD i_1 (0 : Int)))) =
 Cg.AV.sl (l.getD i []).length (1 : Nat) fun (i_1 x : Nat) => Cg.AV.v (Go.Value.int Go.IntKind.i64 ((l.getD i []).getD i_1 (0 : Int)))) ∧
 (m.length = m.length ∧
 (1 : Nat) = (1 : Nat) ∧
 ∀ (i : Nat),
 i < m.length →
 ∀ (j : Nat),
 j < (1 : Nat) →
 (Cg.AV.sl (m.getD i []).length (1 : Nat) fun (i_1 x : Nat) => Cg.AV.v (Go.Value.int Go.IntKind.i64 ((m.getD i []).getD i_1 (0 : Int)))) =
 Cg.AV.sl (m.getD i []).length (1 : Nat) fun (i_1 x : Nat) => Cg.AV.v (Go.Value.int Go.IntKind.i64 ((m.getD i []).getD i_1 (0 : Int)))) ∧
 (Go.IntKind.i64 = Go.IntKind.i64 ∧ Go.IntKind.i64.wrap ((↑x : Int) + (1 : Int)) = (↑x' : Int)) ∧ True) ∧
 True))
 (K (Cg.AV.v (Go.Value.bool Bool.true))))) = awpF Try.prog ([K_eqIntS]) (A_eqIntSS l m) Nm.laws_eqIntSS ([intss l, intss m]) K := by kernel_rfl

theorem vc_sLogEnds (l : List (List Int)) (K : AV → Prop) : (Cg.condP (Decidable.decide ((↑l.length : Int) > (0 : Int)))
 (((0 : Int) ≤ Go.IntKind.i64.wrap ((↑l.length : Int) - (1 : Int)) ∧ Go.IntKind.i64.wrap ((↑l.length : Int) - (1 : Int)) < (↑l.length : Int)) ∧
 (Go.IntKind.i64.wrap ((↑l.length : Int) - (1 : Int))).toNat < l.length ∧
 K (Cg.AV.v (Go.Value.bool ((↑(l.getD (Go.IntKind.i64.wrap ((↑l.length : Int) - (1 : Int))).toNat []).length : Int) == (0 : Int)))))
 (K (Cg.AV.v (Go.Value.bool Bool.false)))) = awpF Try.prog ([]) ([]) Nm.spec_LogEnds ([intss l]) K := by kernel_rfl

theorem vc_iLogEnds (l : List (List Int)) (K : AV → Prop) : (Cg.condP (Decidable.decide ((↑l.length : Int) > (0 : Int)))
 (((0 : Int) ≤ Go.IntKind.i64.wrap ((↑l.length : Int) - (1 : Int)) ∧ Go.IntKind.i64.wrap ((↑l.length : Int) - (1 : Int)) < (↑l.length : Int)) ∧
 (Go.IntKind.i64.wrap ((↑l.length : Int) - (1 : Int))).toNat < l.length ∧
 K (Cg.AV.v (Go.Value.bool ((↑(l.getD (Go.IntKind.i64.wrap ((↑l.length : Int) - (1 : Int))).toNat []).length : Int) == (0 : Int)))))
 (K (Cg.AV.v (Go.Value.bool Bool.false)))) = awpF Try.prog ([]) ([]) Nm.impl_LogEnds ([intss l]) K := by kernel_rfl

theorem vc_xLogEnds (l : List (List Int)) (K : AV → Prop) : ((∀ (i : Nat),
 i < l.length →
 (Cg.AV.sl (l.getD i []).length (1 : Nat) fun (i_1 x : Nat) => Cg.AV.v (Go.Value.int Go.IntKind.i64 ((l.getD i []).getD i_1 (0 : Int)))) =
 Cg.AV.sl (Ls.lv Ls.iv (Cg.AV.sl (l.getD i []).length (1 : Nat) fun (i_1 x : Nat) => Cg.AV.v (Go.Value.int Go.IntKind.i64 ((l.getD i []).getD i_1 (0 : Int))))).length (1 : Nat)
 fun (i_1 x : Nat) =>
 Cg.AV.v
 (Go.Value.int Go.IntKind.i64
 ((Ls.lv Ls.iv (Cg.AV.sl (l.getD i []).length (1 : Nat) fun (i_2 x : Nat) => Cg.AV.v (Go.Value.int Go.IntKind.i64 ((l.getD i []).getD i_2 (0 : Int))))).getD i_1 (0 : Int)))) ∧
 True ∧
 ((Ls.rd (Ls.lv Ls.iv) l.length fun (i x : Nat) => Cg.AV.sl (l.getD i []).length (1 : Nat) fun (i_1 x : Nat) => Cg.AV.v (Go.Value.int Go.IntKind.i64 ((l.getD i []).getD i_1 (0 : Int)))).length ≤
 (9223372036854775807 : Nat) ∧
 (∀ (x : List Int),
 (x ∈
 Ls.rd (Ls.lv Ls.iv) l.length fun (i x : Nat) => Cg.AV.sl (l.getD i []).length (1 : Nat) fun (i_1 x : Nat) => Cg.AV.v (Go.Value.int Go.IntKind.i64 ((l.getD i []).getD i_1 (0 : Int)))) →
 x.length ≤ (9223372036854775807 : Nat)) ∧
 (0 : Int) ≤ (1048576 : Int) ∧ (1048576 : Int) ≤ (1048576 : Int)) ∧
 Cg.condP
 (Decidable.decide
 (Pl.szSS
 (Ls.rd (Ls.lv Ls.iv) l.length fun (i x : Nat) => Cg.AV.sl (l.getD i []).length (1 : Nat) fun (i_1 x : Nat) => Cg.AV.v (Go.Value.int Go.IntKind.i64 ((l.getD i []).getD i_1 (0 : Int))))
 (1048576 : Int) <
 (0 : Int)))
 (K (Cg.AV.v (Go.Value.bool Bool.true)))
 ((∀ (i : Nat),
 i < l.length →
 (Cg.AV.sl (l.getD i []).length (1 : Nat) fun (i_1 x : Nat) => Cg.AV.v (Go.Value.int Go.IntKind.i64 ((l.getD i []).getD i_1 (0 : Int)))) =
 Cg.AV.sl (Ls.lv Ls.iv (Cg.AV.sl (l.getD i []).length (1 : Nat) fun (i_1 x : Nat) => Cg.AV.v (Go.Value.int Go.IntKind.i64 ((l.getD i []).getD i_1 (0 : Int))))).length (1 : Nat)
 fun (i_1 x : Nat) =>
 Cg.AV.v
 (Go.Value.int Go.IntKind.i64
 ((Ls.lv Ls.iv (Cg.AV.sl (l.getD i []).length (1 : Nat) fun (i_2 x : Nat) => Cg.AV.v (Go.Value.int Go.IntKind.i64 ((l.getD i []).getD i_2 (0 : Int))))).getD i_1 (0 : Int)))) ∧
 ((Ls.rd (Ls.lv Ls.iv) l.length fun (i x : Nat) =>
 Cg.AV.sl (l.getD i []).length (1 : Nat) fun (i_1 x : Nat) => Cg.AV.v (Go.Value.int Go.IntKind.i64 ((l.getD i []).getD i_1 (0 : Int)))).length ≤
 (4294967296 : Nat) ∧
 ∀ (x : List Int),
 (x ∈
 Ls.rd (Ls.lv Ls.iv) l.length fun (i x : Nat) =>
 Cg.AV.sl (l.getD i []).length (1 : Nat) fun (i_1 x : Nat) => Cg.AV.v (Go.Value.int Go.IntKind.i64 ((l.getD i []).getD i_1 (0 : Int)))) →
 x.length ≤ (4294967296 : Nat)) ∧
 (∀ (i : Nat),
 i <
 (Ls.rd (Ls.lv Ls.iv) l.length fun (i x : Nat) =>
 Cg.AV.sl (l.getD i []).length (1 : Nat) fun (i_1 x : Nat) => Cg.AV.v (Go.Value.int Go.IntKind.i64 ((l.getD i []).getD i_1 (0 : Int)))).length →
 (Cg.AV.sl
 ((Ls.rd (Ls.lv Ls.iv) l.length fun (i x : Nat) =>
 Cg.AV.sl (l.getD i []).length (1 : Nat) fun (i_1 x : Nat) => Cg.AV.v (Go.Value.int Go.IntKind.i64 ((l.getD i []).getD i_1 (0 : Int)))).getD
 i []).length
 (1 : Nat) fun (i_1 x : Nat) =>
 Cg.AV.v
 (Go.Value.int Go.IntKind.i64
 (((Ls.rd (Ls.lv Ls.iv) l.length fun (i x : Nat) =>
 Cg.AV.sl (l.getD i []).length (1 : Nat) fun (i_2 x : Nat) => Cg.AV.v (Go.Value.int Go.IntKind.i64 ((l.getD i []).getD i_2 (0 : Int)))).getD
 i []).getD
 i_1 (0 : Int)))) =
 Cg.AV.sl
 (Ls.lv Ls.iv
 (Cg.AV.sl
 ((Ls.rd (Ls.lv Ls.iv) l.length fun (i x : Nat) =>
 Cg.AV.sl (l.getD i []).length (1 : Nat) fun (i_1 x : Nat) => Cg.AV.v (Go.Value.int Go.IntKind.i64 ((l.getD i []).getD i_1 (0 : Int)))).getD
 i []).length
 (1 : Nat) fun (i_1 x : Nat) =>
 Cg.AV.v
 (Go.Value.int Go.IntKind.i64
 (((Ls.rd (Ls.lv Ls.iv) l.length fun (i x : Nat) =>
 Cg.AV.sl (l.getD i []).length (1 : Nat) fun (i_2 x : Nat) => Cg.AV.v (Go.Value.int Go.IntKind.i64 ((l.getD i []).getD i_2 (0 : Int)))).getD
 i []).getD
 i_1 (0 : Int))))).length
 (1 : Nat) fun (i_1 x : Nat) =>
 Cg.AV.v
 (Go.Value.int Go.IntKind.i64
 ((Ls.lv Ls.iv
 (Cg.AV.sl
 ((Ls.rd (Ls.lv Ls.iv) l.length fun (i x : Nat) =>
 Cg.AV.sl (l.getD i []).length (1 : Nat) fun (i_2 x : Nat) => Cg.AV.v (Go.Value.int Go.IntKind.i64 ((l.getD i []).getD i_2 (0 : Int)))).getD
 i []).length
 (1 : Nat) fun (i_2 x : Nat) =>
 Cg.AV.v
 (Go.Value.int Go.IntKind.i64
 (((Ls.rd (Ls.lv Ls.iv) l.length fun (i x : Nat) =>
 Cg.AV.sl (l.getD i []).length (1 : Nat) fun (i_3 x : Nat) => Cg.AV.v (Go.Value.int Go.IntKind.i64 ((l.getD i []).getD i_3 (0 : Int)))).getD
 i []).getD
 i_2 (0 : Int))))).getD
 i_1 (0 : Int)))) ∧
 (Ls.rd (Ls.lv Ls.iv)
 (Ls.rd (Ls.lv Ls.iv) l.length fun (i x : Nat) =>
 Cg.AV.sl (l.getD i []).length (1 : Nat) fun (i_1 x : Nat) => Cg.AV.v (Go.Value.int Go.IntKind.i64 ((l.getD i []).getD i_1 (0 : Int)))).length
 fun (i x : Nat) =>
 Cg.AV.sl
 ((Ls.rd (Ls.lv Ls.iv) l.length fun (i x : Nat) =>
 Cg.AV.sl (l.getD i []).length (1 : Nat) fun (i_1 x : Nat) => Cg.AV.v (Go.Value.int Go.IntKind.i64 ((l.getD i []).getD i_1 (0 : Int)))).getD
 i []).length
 (1 : Nat) fun (i_1 x : Nat) =>
 Cg.AV.v
 (Go.Value.int Go.IntKind.i64
 (((Ls.rd (Ls.lv Ls.iv) l.length fun (i x : Nat) =>
 Cg.AV.sl (l.getD i []).length (1 : Nat) fun (i_2 x : Nat) => Cg.AV.v (Go.Value.int Go.IntKind.i64 ((l.getD i []).getD i_2 (0 : Int)))).getD
 i []).getD
 i_1 (0 : Int)))).length ≤
 (4294967296 : Nat) ∧
 (∀ (i : Nat),
 i < l.length →
 (Cg.AV.sl (l.getD i []).length (1 : Nat) fun (i_1 x : Nat) => Cg.AV.v (Go.Value.int Go.IntKind.i64 ((l.getD i []).getD i_1 (0 : Int)))) =
 Cg.AV.sl (Ls.lv Ls.iv (Cg.AV.sl (l.getD i []).length (1 : Nat) fun (i_1 x : Nat) => Cg.AV.v (Go.Value.int Go.IntKind.i64 ((l.getD i []).getD i_1 (0 : Int))))).length (1 : Nat)
 fun (i_1 x : Nat) =>
 Cg.AV.v
 (Go.Value.int Go.IntKind.i64
 ((Ls.lv Ls.iv (Cg.AV.sl (l.getD i []).length (1 : Nat) fun (i_2 x : Nat) => Cg.AV.v (Go.Value.int Go.IntKind.i64 ((l.getD i []).getD i_2 (0 : Int))))).getD i_1
 (0 : Int)))) ∧
 ((Ls.rd (Ls.lv Ls.iv) l.length fun (i x : Nat) =>
 Cg.AV.sl (l.getD i []).length (1 : Nat) fun (i_1 x : Nat) => Cg.AV.v (Go.Value.int Go.IntKind.i64 ((l.getD i []).getD i_1 (0 : Int)))).length ≤
 (4294967296 : Nat) ∧
 ∀ (x : List Int),
 (x ∈
 Ls.rd (Ls.lv Ls.iv) l.length fun (i x : Nat) =>
 Cg.AV.sl (l.getD i []).length (1 : Nat) fun (i_1 x : Nat) => Cg.AV.v (Go.Value.int Go.IntKind.i64 ((l.getD i []).getD i_1 (0 : Int)))) →
 x.length ≤ (4294967296 : Nat)) ∧
 (∀ (i : Nat),
 i <
 (Ls.rd (Ls.lv Ls.iv) l.length fun (i x : Nat) =>
 Cg.AV.sl (l.getD i []).length (1 : Nat) fun (i_1 x : Nat) => Cg.AV.v (Go.Value.int Go.IntKind.i64 ((l.getD i []).getD i_1 (0 : Int)))).length →
 (Cg.AV.sl
 ((Ls.rd (Ls.lv Ls.iv) l.length fun (i x : Nat) =>
 Cg.AV.sl (l.getD i []).length (1 : Nat) fun (i_1 x : Nat) => Cg.AV.v (Go.Value.int Go.IntKind.i64 ((l.getD i []).getD i_1 (0 : Int)))).getD
 i []).length
 (1 : Nat) fun (i_1 x : Nat) =>
 Cg.AV.v
 (Go.Value.int Go.IntKind.i64
 (((Ls.rd (Ls.lv Ls.iv) l.length fun (i x : Nat) =>
 Cg.AV.sl (l.getD i []).length (1 : Nat) fun (i_2 x : Nat) => Cg.AV.v (Go.Value.int Go.IntKind.i64 ((l.getD i []).getD i_2 (0 : Int)))).getD
 i []).getD
 i_1 (0 : Int)))) =
 Cg.AV.sl
 (Ls.lv Ls.iv
 (Cg.AV.sl
 ((Ls.rd (Ls.lv Ls.iv) l.length fun (i x : Nat) =>
 Cg.AV.sl (l.getD i []).length (1 : Nat) fun (i_1 x : Nat) => Cg.AV.v (Go.Value.int Go.IntKind.i64 ((l.getD i []).getD i_1 (0 : Int)))).getD
 i []).length
 (1 : Nat) fun (i_1 x : Nat) =>
 Cg.AV.v
 (Go.Value.int Go.IntKind.i64
 (((Ls.rd (Ls.lv Ls.iv) l.length fun (i x : Nat) =>
 Cg.AV.sl (l.getD i []).length (1 : Nat) fun (i_2 x : Nat) => Cg.AV.v (Go.Value.int Go.IntKind.i64 ((l.getD i []).getD i_2 (0 : Int)))).getD
 i []).getD
 i_1 (0 : Int))))).length
 (1 : Nat) fun (i_1 x : Nat) =>
 Cg.AV.v
 (Go.Value.int Go.IntKind.i64
 ((Ls.lv Ls.iv
 (Cg.AV.sl
 ((Ls.rd (Ls.lv Ls.iv) l.length fun (i x : Nat) =>
 Cg.AV.sl (l.getD i []).length (1 : Nat) fun (i_2 x : Nat) => Cg.AV.v (Go.Value.int Go.IntKind.i64 ((l.getD i []).getD i_2 (0 : Int)))).getD
 i []).length
 (1 : Nat) fun (i_2 x : Nat) =>
 Cg.AV.v
 (Go.Value.int Go.IntKind.i64
 (((Ls.rd (Ls.lv Ls.iv) l.length fun (i x : Nat) =>
 Cg.AV.sl (l.getD i []).length (1 : Nat) fun (i_3 x : Nat) => Cg.AV.v (Go.Value.int Go.IntKind.i64 ((l.getD i []).getD i_3 (0 : Int)))).getD
 i []).getD
 i_2 (0 : Int))))).getD
 i_1 (0 : Int)))) ∧
 (Ls.rd (Ls.lv Ls.iv)
 (Ls.rd (Ls.lv Ls.iv) l.length fun (i x : Nat) =>
 Cg.AV.sl (l.getD i []).length (1 : Nat) fun (i_1 x : Nat) => Cg.AV.v (Go.Value.int Go.IntKind.i64 ((l.getD i []).getD i_1 (0 : Int)))).length
 fun (i x : Nat) =>
 Cg.AV.sl
 ((Ls.rd (Ls.lv Ls.iv) l.length fun (i x : Nat) =>
 Cg.AV.sl (l.getD i []).length (1 : Nat) fun (i_1 x : Nat) => Cg.AV.v (Go.Value.int Go.IntKind.i64 ((l.getD i []).getD i_1 (0 : Int)))).getD
 i []).length
 (1 : Nat) fun (i_1 x : Nat) =>
 Cg.AV.v
 (Go.Value.int Go.IntKind.i64
 (((Ls.rd (Ls.lv Ls.iv) l.length fun (i x : Nat) =>
 Cg.AV.sl (l.getD i []).length (1 : Nat) fun (i_2 x : Nat) => Cg.AV.v (Go.Value.int Go.IntKind.i64 ((l.getD i []).getD i_2 (0 : Int)))).getD
 i []).getD
 i_1 (0 : Int)))).length ≤
 (4294967296 : Nat) ∧
 Cg.condP
 (!Pl.logEnds
 (Ls.rd (Ls.lv Ls.iv)
 (Ls.rd (Ls.lv Ls.iv) l.length fun (i x : Nat) =>
 Cg.AV.sl (l.getD i []).length (1 : Nat) fun (i_1 x : Nat) => Cg.AV.v (Go.Value.int Go.IntKind.i64 ((l.getD i []).getD i_1 (0 : Int)))).length
 fun (i x : Nat) =>
 Cg.AV.sl
 ((Ls.rd (Ls.lv Ls.iv) l.length fun (i x : Nat) =>
 Cg.AV.sl (l.getD i []).length (1 : Nat) fun (i_1 x : Nat) => Cg.AV.v (Go.Value.int Go.IntKind.i64 ((l.getD i []).getD i_1 (0 : Int)))).getD
 i []).length
 (1 : Nat) fun (i_1 x : Nat) =>
 Cg.AV.v
 (Go.Value.int Go.IntKind.i64
 (((Ls.rd (Ls.lv Ls.iv) l.length fun (i x : Nat) =>
 Cg.AV.sl (l.getD i []).length (1 : Nat) fun (i_2 x : Nat) => Cg.AV.v (Go.Value.int Go.IntKind.i64 ((l.getD i []).getD i_2 (0 : Int)))).getD
 i []).getD
 i_1 (0 : Int)))) ==
 Pl.logEnds
 (Ls.rd (Ls.lv Ls.iv)
 (Ls.rd (Ls.lv Ls.iv) l.length fun (i x : Nat) =>
 Cg.AV.sl (l.getD i []).length (1 : Nat) fun (i_1 x : Nat) => Cg.AV.v (Go.Value.int Go.IntKind.i64 ((l.getD i []).getD i_1 (0 : Int)))).length
 fun (i x : Nat) =>
 Cg.AV.sl
 ((Ls.rd (Ls.lv Ls.iv) l.length fun (i x : Nat) =>
 Cg.AV.sl (l.getD i []).length (1 : Nat) fun (i_1 x : Nat) => Cg.AV.v (Go.Value.int Go.IntKind.i64 ((l.getD i []).getD i_1 (0 : Int)))).getD
 i []).length
 (1 : Nat) fun (i_1 x : Nat) =>
 Cg.AV.v
 (Go.Value.int Go.IntKind.i64
 (((Ls.rd (Ls.lv Ls.iv) l.length fun (i x : Nat) =>
 Cg.AV.sl (l.getD i []).length (1 : Nat) fun (i_2 x : Nat) => Cg.AV.v (Go.Value.int Go.IntKind.i64 ((l.getD i []).getD i_2 (0 : Int)))).getD
 i []).getD
 i_1 (0 : Int)))))
 (K (Cg.AV.v (Go.Value.bool Bool.false)))
 ((∀ (i : Nat),
 i < l.length →
 (Cg.AV.sl (l.getD i []).length (1 : Nat) fun (i_1 x : Nat) => Cg.AV.v (Go.Value.int Go.IntKind.i64 ((l.getD i []).getD i_1 (0 : Int)))) =
 Cg.AV.sl (Ls.lv Ls.iv (Cg.AV.sl (l.getD i []).length (1 : Nat) fun (i_1 x : Nat) => Cg.AV.v (Go.Value.int Go.IntKind.i64 ((l.getD i []).getD i_1 (0 : Int))))).length
 (1 : Nat) fun (i_1 x : Nat) =>
 Cg.AV.v
 (Go.Value.int Go.IntKind.i64
 ((Ls.lv Ls.iv (Cg.AV.sl (l.getD i []).length (1 : Nat) fun (i_2 x : Nat) => Cg.AV.v (Go.Value.int Go.IntKind.i64 ((l.getD i []).getD i_2 (0 : Int))))).getD i_1
 (0 : Int)))) ∧
 ((Ls.rd (Ls.lv Ls.iv) l.length fun (i x : Nat) =>
 Cg.AV.sl (l.getD i []).length (1 : Nat) fun (i_1 x : Nat) => Cg.AV.v (Go.Value.int Go.IntKind.i64 ((l.getD i []).getD i_1 (0 : Int)))).length ≤
 (4294967296 : Nat) ∧
 ∀ (x : List Int),
 (x ∈
 Ls.rd (Ls.lv Ls.iv) l.length fun (i x : Nat) =>
 Cg.AV.sl (l.getD i []).length (1 : Nat) fun (i_1 x : Nat) => Cg.AV.v (Go.Value.int Go.IntKind.i64 ((l.getD i []).getD i_1 (0 : Int)))) →
 x.length ≤ (4294967296 : Nat)) ∧
 (∀ (i : Nat),
 i <
 (Ls.rd (Ls.lv Ls.iv) l.length fun (i x : Nat) =>
 Cg.AV.sl (l.getD i []).length (1 : Nat) fun (i_1 x : Nat) => Cg.AV.v (Go.Value.int Go.IntKind.i64 ((l.getD i []).getD i_1 (0 : Int)))).length →
 (Cg.AV.sl
 ((Ls.rd (Ls.lv Ls.iv) l.length fun (i x : Nat) =>
 Cg.AV.sl (l.getD i []).length (1 : Nat) fun (i_1 x : Nat) => Cg.AV.v (Go.Value.int Go.IntKind.i64 ((l.getD i []).getD i_1 (0 : Int)))).getD
 i []).length
 (1 : Nat) fun (i_1 x : Nat) =>
 Cg.AV.v
 (Go.Value.int Go.IntKind.i64
 (((Ls.rd (Ls.lv Ls.iv) l.length fun (i x : Nat) =>
 Cg.AV.sl (l.getD i []).length (1 : Nat) fun (i_2 x : Nat) => Cg.AV.v (Go.Value.int Go.IntKind.i64 ((l.getD i []).getD i_2 (0 : Int)))).getD
 i []).getD
 i_1 (0 : Int)))) =
 Cg.AV.sl
 (Ls.lv Ls.iv
 (Cg.AV.sl
 ((Ls.rd (Ls.lv Ls.iv) l.length fun (i x : Nat) =>
 Cg.AV.sl (l.getD i []).length (1 : Nat) fun (i_1 x : Nat) => Cg.AV.v (Go.Value.int Go.IntKind.i64 ((l.getD i []).getD i_1 (0 : Int)))).getD
 i []).length
 (1 : Nat) fun (i_1 x : Nat) =>
 Cg.AV.v
 (Go.Value.int Go.IntKind.i64
 (((Ls.rd (Ls.lv Ls.iv) l.length fun (i x : Nat) =>
 Cg.AV.sl (l.getD i []).length (1 : Nat) fun (i_2 x : Nat) => Cg.AV.v (Go.Value.int Go.IntKind.i64 ((l.getD i []).getD i_2 (0 : Int)))).getD
 i []).getD
 i_1 (0 : Int))))).length
 (1 : Nat) fun (i_1 x : Nat) =>
 Cg.AV.v
 (Go.Value.int Go.IntKind.i64
 ((Ls.lv Ls.iv
 (Cg.AV.sl
 ((Ls.rd (Ls.lv Ls.iv) l.length fun (i x : Nat) =>
 Cg.AV.sl (l.getD i []).length (1 : Nat) fun (i_2 x : Nat) => Cg.AV.v (Go.Value.int Go.IntKind.i64 ((l.getD i []).getD i_2 (0 : Int)))).getD
 i []).length
 (1 : Nat) fun (i_2 x : Nat) =>
 Cg.AV.v
 (Go.Value.int Go.IntKind.i64
 (((Ls.rd (Ls.lv Ls.iv) l.length fun (i x : Nat) =>
 Cg.AV.sl (l.getD i []).length (1 : Nat) fun (i_3 x : Nat) =>
 Cg.AV.v (Go.Value.int Go.IntKind.i64 ((l.getD i []).getD i_3 (0 : Int)))).getD
 i []).getD
 i_2 (0 : Int))))).getD
 i_1 (0 : Int)))) ∧
 (∀ (i : Nat),
 i <
 (Ls.rd (Ls.lv Ls.iv) l.length fun (i x : Nat) =>
 Cg.AV.sl (l.getD i []).length (1 : Nat) fun (i_1 x : Nat) => Cg.AV.v (Go.Value.int Go.IntKind.i64 ((l.getD i []).getD i_1 (0 : Int)))).length →
 (Cg.AV.sl
 ((Ls.rd (Ls.lv Ls.iv) l.length fun (i x : Nat) =>
 Cg.AV.sl (l.getD i []).length (1 : Nat) fun (i_1 x : Nat) => Cg.AV.v (Go.Value.int Go.IntKind.i64 ((l.getD i []).getD i_1 (0 : Int)))).getD
 i []).length
 (1 : Nat) fun (i_1 x : Nat) =>
 Cg.AV.v
 (Go.Value.int Go.IntKind.i64
 (((Ls.rd (Ls.lv Ls.iv) l.length fun (i x : Nat) =>
 Cg.AV.sl (l.getD i []).length (1 : Nat) fun (i_2 x : Nat) => Cg.AV.v (Go.Value.int Go.IntKind.i64 ((l.getD i []).getD i_2 (0 : Int)))).getD
 i []).getD
 i_1 (0 : Int)))) =
 Cg.AV.sl
 (Ls.lv Ls.iv
 (Cg.AV.sl
 ((Ls.rd (Ls.lv Ls.iv) l.length fun (i x : Nat) =>
 Cg.AV.sl (l.getD i []).length (1 : Nat) fun (i_1 x : Nat) => Cg.AV.v (Go.Value.int Go.IntKind.i64 ((l.getD i []).getD i_1 (0 : Int)))).getD
 i []).length
 (1 : Nat) fun (i_1 x : Nat) =>
 Cg.AV.v
 (Go.Value.int Go.IntKind.i64
 (((Ls.rd (Ls.lv Ls.iv) l.length fun (i x : Nat) =>
 Cg.AV.sl (l.getD i []).length (1 : Nat) fun (i_2 x : Nat) =>
 Cg.AV.v (Go.Value.int Go.IntKind.i64 ((l.getD i []).getD i_2 (0 : Int)))).getD
 i []).getD
 i_1 (0 : Int))))).length
 (1 : Nat) fun (i_1 x : Nat) =>
 Cg.AV.v
 (Go.Value.int Go.IntKind.i64
 ((Ls.lv Ls.iv
 (Cg.AV.sl
 ((Ls.rd (Ls.lv Ls.iv) l.length fun (i x : Nat) =>
 Cg.AV.sl (l.getD i []).length (1 : Nat) fun (i_2 x : Nat) =>
 Cg.AV.v (Go.Value.int Go.IntKind.i64 ((l.getD i []).getD i_2 (0 : Int)))).getD
 i []).length
 (1 : Nat) fun (i_2 x : Nat) =>
 Cg.AV.v
 (Go.Value.int Go.IntKind.i64
 (((Ls.rd (Ls.lv Ls.iv) l.length fun (i x : Nat) =>
 Cg.AV.sl (l.getD i []).length (1 : Nat) fun (i_3 x : Nat) =>
 Cg.AV.v (Go.Value.int Go.IntKind.i64 ((l.getD i []).getD i_3 (0 : Int)))).getD
 i []).getD
 i_2 (0 : Int))))).getD
 i_1 (0 : Int)))) ∧
 ((Ls.rd (Ls.lv Ls.iv)
 (Ls.rd (Ls.lv Ls.iv) l.length fun (i x : Nat) =>
 Cg.AV.sl (l.getD i []).length (1 : Nat) fun (i_1 x : Nat) => Cg.AV.v (Go.Value.int Go.IntKind.i64 ((l.getD i []).getD i_1 (0 : Int)))).length
 fun (i x : Nat) =>
 Cg.AV.sl
 ((Ls.rd (Ls.lv Ls.iv) l.length fun (i x : Nat) =>
 Cg.AV.sl (l.getD i []).length (1 : Nat) fun (i_1 x : Nat) => Cg.AV.v (Go.Value.int Go.IntKind.i64 ((l.getD i []).getD i_1 (0 : Int)))).getD
 i []).length
 (1 : Nat) fun (i_1 x : Nat) =>
 Cg.AV.v
 (Go.Value.int Go.IntKind.i64
 (((Ls.rd (Ls.lv Ls.iv) l.length fun (i x : Nat) =>
 Cg.AV.sl (l.getD i []).length (1 : Nat) fun (i_2 x : Nat) => Cg.AV.v (Go.Value.int Go.IntKind.i64 ((l.getD i []).getD i_2 (0 : Int)))).getD
 i []).getD
 i_1 (0 : Int)))).length ≤
 (4294967296 : Nat) ∧
 ∀ (x : List Int),
 (x ∈
 Ls.rd (Ls.lv Ls.iv)
 (Ls.rd (Ls.lv Ls.iv) l.length fun (i x : Nat) =>
 Cg.AV.sl (l.getD i []).length (1 : Nat) fun (i_1 x : Nat) => Cg.AV.v (Go.Value.int Go.IntKind.i64 ((l.getD i []).getD i_1 (0 : Int)))).length
 fun (i x : Nat) =>
 Cg.AV.sl
 ((Ls.rd (Ls.lv Ls.iv) l.length fun (i x : Nat) =>
 Cg.AV.sl (l.getD i []).length (1 : Nat) fun (i_1 x : Nat) => Cg.AV.v (Go.Value.int Go.IntKind.i64 ((l.getD i []).getD i_1 (0 : Int)))).getD
 i []).length
 (1 : Nat) fun (i_1 x : Nat) =>
 Cg.AV.v
 (Go.Value.int Go.IntKind.i64
 (((Ls.rd (Ls.lv Ls.iv) l.length fun (i x : Nat) =>
 Cg.AV.sl (l.getD i []).length (1 : Nat) fun (i_2 x : Nat) =>
 Cg.AV.v (Go.Value.int Go.IntKind.i64 ((l.getD i []).getD i_2 (0 : Int)))).getD
 i []).getD
 i_1 (0 : Int)))) →
 x.length ≤ (4294967296 : Nat)) ∧
 Cg.condP
 (!Decidable.decide
 ((Ls.rd (Ls.lv Ls.iv)
 (Ls.rd (Ls.lv Ls.iv) l.length fun (i x : Nat) =>
 Cg.AV.sl (l.getD i []).length (1 : Nat) fun (i_1 x : Nat) => Cg.AV.v (Go.Value.int Go.IntKind.i64 ((l.getD i []).getD i_1 (0 : Int)))).length
 fun (i x : Nat) =>
 Cg.AV.sl
 ((Ls.rd (Ls.lv Ls.iv) l.length fun (i x : Nat) =>
 Cg.AV.sl (l.getD i []).length (1 : Nat) fun (i_1 x : Nat) => Cg.AV.v (Go.Value.int Go.IntKind.i64 ((l.getD i []).getD i_1 (0 : Int)))).getD
 i []).length
 (1 : Nat) fun (i_1 x : Nat) =>
 Cg.AV.v
 (Go.Value.int Go.IntKind.i64
 (((Ls.rd (Ls.lv Ls.iv) l.length fun (i x : Nat) =>
 Cg.AV.sl (l.getD i []).length (1 : Nat) fun (i_2 x : Nat) =>
 Cg.AV.v (Go.Value.int Go.IntKind.i64 ((l.getD i []).getD i_2 (0 : Int)))).getD
 i []).getD
 i_1 (0 : Int)))) =
 Ls.rd (Ls.lv Ls.iv)
 (Ls.rd (Ls.lv Ls.iv) l.length fun (i x : Nat) =>
 Cg.AV.sl (l.getD i []).length (1 : Nat) fun (i_1 x : Nat) => Cg.AV.v (Go.Value.int Go.IntKind.i64 ((l.getD i []).getD i_1 (0 : Int)))).length
 fun (i x : Nat) =>
 Cg.AV.sl
 ((Ls.rd (Ls.lv Ls.iv) l.length fun (i x : Nat) =>
 Cg.AV.sl (l.getD i []).length (1 : Nat) fun (i_1 x : Nat) => Cg.AV.v (Go.Value.int Go.IntKind.i64 ((l.getD i []).getD i_1 (0 : Int)))).getD
 i []).length
 (1 : Nat) fun (i_1 x : Nat) =>
 Cg.AV.v
 (Go.Value.int Go.IntKind.i64
 (((Ls.rd (Ls.lv Ls.iv) l.length fun (i x : Nat) =>
 Cg.AV.sl (l.getD i []).length (1 : Nat) fun (i_2 x : Nat) =>
 Cg.AV.v (Go.Value.int Go.IntKind.i64 ((l.getD i []).getD i_2 (0 : Int)))).getD
 i []).getD
 i_1 (0 : Int)))))
 (K (Cg.AV.v (Go.Value.bool Bool.false))) (K (Cg.AV.v (Go.Value.bool Bool.true)))))) = awpF Try.prog ([K_szIntSS, K_toIntSS, K_sLogEnds, K_iLogEnds, K_eqIntSS]) ([]) Nm.laws_FnExactLogEnds ([intss l]) K := by kernel_rfl

theorem vc_xClauseOk (l : List Int) (many : Int) (K : AV → Prop) : (Cg.condP (Decidable.decide ((↑l.length : Int) > (1048576 : Int))) (K (Cg.AV.v (Go.Value.bool Bool.true)))
 ((∀ (i : Nat),
 i < l.length → Cg.AV.v (Go.Value.int Go.IntKind.i64 (l.getD i (0 : Int))) = Cg.AV.v (Go.Value.int Go.IntKind.i64 (Ls.iv (Cg.AV.v (Go.Value.int Go.IntKind.i64 (l.getD i (0 : Int))))))) ∧
 (Ls.rd Ls.iv l.length fun (i x : Nat) => Cg.AV.v (Go.Value.int Go.IntKind.i64 (l.getD i (0 : Int)))).length ≤ (4294967296 : Nat) ∧
 (∀ (i : Nat),
 i < (Ls.rd Ls.iv l.length fun (i x : Nat) => Cg.AV.v (Go.Value.int Go.IntKind.i64 (l.getD i (0 : Int)))).length →
 Cg.AV.v (Go.Value.int Go.IntKind.i64 ((Ls.rd Ls.iv l.length fun (i x : Nat) => Cg.AV.v (Go.Value.int Go.IntKind.i64 (l.getD i (0 : Int)))).getD i (0 : Int))) =
 Cg.AV.v
 (Go.Value.int Go.IntKind.i64
 (Ls.iv (Cg.AV.v (Go.Value.int Go.IntKind.i64 ((Ls.rd Ls.iv l.length fun (i x : Nat) => Cg.AV.v (Go.Value.int Go.IntKind.i64 (l.getD i (0 : Int)))).getD i (0 : Int))))))) ∧
 True ∧
 (Ls.rd Ls.iv (Ls.rd Ls.iv l.length fun (i x : Nat) => Cg.AV.v (Go.Value.int Go.IntKind.i64 (l.getD i (0 : Int)))).length fun (i x : Nat) =>
 Cg.AV.v (Go.Value.int Go.IntKind.i64 ((Ls.rd Ls.iv l.length fun (i x : Nat) => Cg.AV.v (Go.Value.int Go.IntKind.i64 (l.getD i (0 : Int)))).getD i (0 : Int)))).length ≤
 (4294967296 : Nat) ∧
 (∀ (i : Nat),
 i < l.length →
 Cg.AV.v (Go.Value.int Go.IntKind.i64 (l.getD i (0 : Int))) = Cg.AV.v (Go.Value.int Go.IntKind.i64 (Ls.iv (Cg.AV.v (Go.Value.int Go.IntKind.i64 (l.getD i (0 : Int))))))) ∧
 (Ls.rd Ls.iv l.length fun (i x : Nat) => Cg.AV.v (Go.Value.int Go.IntKind.i64 (l.getD i (0 : Int)))).length ≤ (4294967296 : Nat) ∧
 (∀ (i : Nat),
 i < (Ls.rd Ls.iv l.length fun (i x : Nat) => Cg.AV.v (Go.Value.int Go.IntKind.i64 (l.getD i (0 : Int)))).length →
 Cg.AV.v (Go.Value.int Go.IntKind.i64 ((Ls.rd Ls.iv l.length fun (i x : Nat) => Cg.AV.v (Go.Value.int Go.IntKind.i64 (l.getD i (0 : Int)))).getD i (0 : Int))) =
 Cg.AV.v
 (Go.Value.int Go.IntKind.i64
 (Ls.iv (Cg.AV.v (Go.Value.int Go.IntKind.i64 ((Ls.rd Ls.iv l.length fun (i x : Nat) => Cg.AV.v (Go.Value.int Go.IntKind.i64 (l.getD i (0 : Int)))).getD i (0 : Int))))))) ∧
 True ∧
 (Ls.rd Ls.iv (Ls.rd Ls.iv l.length fun (i x : Nat) => Cg.AV.v (Go.Value.int Go.IntKind.i64 (l.getD i (0 : Int)))).length fun (i x : Nat) =>
 Cg.AV.v (Go.Value.int Go.IntKind.i64 ((Ls.rd Ls.iv l.length fun (i x : Nat) => Cg.AV.v (Go.Value.int Go.IntKind.i64 (l.getD i (0 : Int)))).getD i (0 : Int)))).length ≤
 (4294967296 : Nat) ∧
 Cg.condP
 (!Pl.implClause
 (Ls.rd Ls.iv (Ls.rd Ls.iv l.length fun (i x : Nat) => Cg.AV.v (Go.Value.int Go.IntKind.i64 (l.getD i (0 : Int)))).length fun (i x : Nat) =>
 Cg.AV.v (Go.Value.int Go.IntKind.i64 ((Ls.rd Ls.iv l.length fun (i x : Nat) => Cg.AV.v (Go.Value.int Go.IntKind.i64 (l.getD i (0 : Int)))).getD i (0 : Int))))
 many ==
 Pl.specClause
 (Ls.rd Ls.iv (Ls.rd Ls.iv l.length fun (i x : Nat) => Cg.AV.v (Go.Value.int Go.IntKind.i64 (l.getD i (0 : Int)))).length fun (i x : Nat) =>
 Cg.AV.v (Go.Value.int Go.IntKind.i64 ((Ls.rd Ls.iv l.length fun (i x : Nat) => Cg.AV.v (Go.Value.int Go.IntKind.i64 (l.getD i (0 : Int)))).getD i (0 : Int))))
 many)
 (K (Cg.AV.v (Go.Value.bool Bool.false)))
 ((∀ (i : Nat),
 i < l.length →
 Cg.AV.v (Go.Value.int Go.IntKind.i64 (l.getD i (0 : Int))) = Cg.AV.v (Go.Value.int Go.IntKind.i64 (Ls.iv (Cg.AV.v (Go.Value.int Go.IntKind.i64 (l.getD i (0 : Int))))))) ∧
 (Ls.rd Ls.iv l.length fun (i x : Nat) => Cg.AV.v (Go.Value.int Go.IntKind.i64 (l.getD i (0 : Int)))).length ≤ (4294967296 : Nat) ∧
 (∀ (i : Nat),
 i < (Ls.rd Ls.iv l.length fun (i x : Nat) => Cg.AV.v (Go.Value.int Go.IntKind.i64 (l.getD i (0 : Int)))).length →
 Cg.AV.v (Go.Value.int Go.IntKind.i64 ((Ls.rd Ls.iv l.length fun (i x : Nat) => Cg.AV.v (Go.Value.int Go.IntKind.i64 (l.getD i (0 : Int)))).getD i (0 : Int))) =
 Cg.AV.v
 (Go.Value.int Go.IntKind.i64
 (Ls.iv
 (Cg.AV.v
 (Go.Value.int Go.IntKind.i64 ((Ls.rd Ls.iv l.length fun (i x : Nat) => Cg.AV.v (Go.Value.int Go.IntKind.i64 (l.getD i (0 : Int)))).getD i (0 : Int))))))) ∧
 (∀ (i : Nat),
 i < (Ls.rd Ls.iv l.length fun (i x : Nat) => Cg.AV.v (Go.Value.int Go.IntKind.i64 (l.getD i (0 : Int)))).length →
 Cg.AV.v (Go.Value.int Go.IntKind.i64 ((Ls.rd Ls.iv l.length fun (i x : Nat) => Cg.AV.v (Go.Value.int Go.IntKind.i64 (l.getD i (0 : Int)))).getD i (0 : Int))) =
 Cg.AV.v
 (Go.Value.int Go.IntKind.i64
 (Ls.iv
 (Cg.AV.v
 (Go.Value.int Go.IntKind.i64
 ((Ls.rd Ls.iv l.length fun (i x : Nat) => Cg.AV.v (Go.Value.int Go.IntKind.i64 (l.getD i (0 : Int)))).getD i (0 : Int))))))) ∧
 (Ls.rd Ls.iv (Ls.rd Ls.iv l.length fun (i x : Nat) => Cg.AV.v (Go.Value.int Go.IntKind.i64 (l.getD i (0 : Int)))).length fun (i x : Nat) =>
 Cg.AV.v
 (Go.Value.int Go.IntKind.i64
 ((Ls.rd Ls.iv l.length fun (i x : Nat) => Cg.AV.v (Go.Value.int Go.IntKind.i64 (l.getD i (0 : Int)))).getD i (0 : Int)))).length ≤
 (4294967296 : Nat) ∧
 Cg.condP
 (!Decidable.decide
 ((Ls.rd Ls.iv (Ls.rd Ls.iv l.length fun (i x : Nat) => Cg.AV.v (Go.Value.int Go.IntKind.i64 (l.getD i (0 : Int)))).length fun (i x : Nat) =>
 Cg.AV.v
 (Go.Value.int Go.IntKind.i64 ((Ls.rd Ls.iv l.length fun (i x : Nat) => Cg.AV.v (Go.Value.int Go.IntKind.i64 (l.getD i (0 : Int)))).getD i (0 : Int)))) =
 Ls.rd Ls.iv (Ls.rd Ls.iv l.length fun (i x : Nat) => Cg.AV.v (Go.Value.int Go.IntKind.i64 (l.getD i (0 : Int)))).length fun (i x : Nat) =>
 Cg.AV.v
 (Go.Value.int Go.IntKind.i64 ((Ls.rd Ls.iv l.length fun (i x : Nat) => Cg.AV.v (Go.Value.int Go.IntKind.i64 (l.getD i (0 : Int)))).getD i (0 : Int)))))
 (K (Cg.AV.v (Go.Value.bool Bool.false))) (K (Cg.AV.v (Go.Value.bool Bool.true)))))) = awpF Try.prog ([K_toIntS, K_sClauseOk, K_iClauseOk, K_eqIntS]) ([]) Nm.laws_FnExactClauseOk ([ints l, i64 many]) K := by kernel_rfl

end Cg
