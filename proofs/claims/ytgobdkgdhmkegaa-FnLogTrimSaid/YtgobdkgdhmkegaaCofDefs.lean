/-
  Plain functions, and what is known of the codes' callees and loops: laws of clauses made of lists. No condition.
-/
import Derived.Test.YtgobdkgdhmkegaaSrtDefs
import Derived.Test.YtgobdkgdhmkegaaCuDefs
namespace Cg
open Go
def K_l10ValsN : Nat × Contract := (Nm.spec_l10Vals, .eff (List Int × Int × Int) (fun x => ⟨[.ptr 0 0, i64 x.2.2], [.var [byts x.1, i64 x.2.1]]⟩) (fun x => Rd 274877906944 x.1 x.2.1 ∧ x.2.2 ≤ 100) (List Bool × Int) (fun x y => ((y.1.length : Int) ≤ x.2.2 + 1 ∨ y.1.length ≤ 1) ∧ x.2.1 ≤ y.2 ∧ y.2 ≤ x.2.1 + 300) fun x y => (bools y.1, [.var [byts x.1, i64 y.2]]))
def K_DrawClauseOf : Nat × Contract := (Nm.spec_DrawClauseOf, .eff (List Int) (fun b => ⟨[byts b], []⟩) (fun b => Sz b ∧ Byt b) (List Int) (fun _ y => y.length ≤ 100) fun _ y => (ints y, []))
def K_DrawClauseIs : Nat × Contract := (Nm.spec_DrawClauseIs, .eff (List Int) (fun b => ⟨[byts b], []⟩) (fun b => Sz b ∧ Byt b) (List Int × List Bool) (fun _ y => y.1.length ≤ 100 ∧ y.2.length ≤ 60) fun _ y => (.tup [ints y.1, bools y.2], []))
def K_yClauseOf : Nat × Contract := (Nm.laws_FnClauseOf, .sc (List Int) (fun b => [byts b]) Byt fun _ => bl true)
def K_yClauseAlways : Nat × Contract := (Nm.laws_FnClauseAlways, .sc (List Int) (fun b => [byts b]) Byt fun _ => bl true)
def A_yClauseAlways : List Ann :=
  [.mk (List Int × List Bool × Nat) (fun x => x.1.length ≤ 100 ∧ x.2.1.length ≤ 60 ∧ (Pl.clauseOf x.1).2 = false ∧ x.2.2 ≤ x.1.length ∧ ∀ y ∈ x.1.take x.2.2, y ≠ 0 ∧ -(x.2.1.length : Int) ≤ y ∧ y ≤ x.2.1.length)
    (fun x => { fr := pad [.any, .any, .any, ints x.1, .any, .any, .any, .any, .any, bools x.2.1, i64 x.2.2] 73, H := [] }) (fun x => x.1.length - x.2.2) (fun _ => [])]
end Cg
