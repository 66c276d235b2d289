/-
  What is known of the library's callees: sorted lists of marks, and clauses made of lists. No condition.
-/
import Derived.Test.YtgobdkgdhmkegaaDrawDefs
namespace Pl
def SortedV (m : List Int) : Prop := ∀ i j, i < j → j < m.length → ¬ varI (m.getD j 0) < varI (m.getD i 0)
def keepsL (l : List Int) (j : Nat) : Bool := decide (j = 0 ∨ l.getD j 0 ≠ l.getD (j - 1) 0)
def compactN (l : List Int) (m : Nat) : List Int := ((List.range m).filter (keepsL l)).map fun j => l.getD j 0
def compactL (l : List Int) : List Int := compactN l l.length
def fineMark (l : List Int) (x : Int) : Bool := isMark x 60 && !l.contains (wneg x)
end Pl
namespace Cg
open Go
def K_SortFunc : Nat × Contract := (Nm.slices_SortFunc_Sint_int, .eff (List Int) (fun l => ⟨[.osl 0 0 l.length, .fn (.func Nm.impl_ClauseOf_1) []], [arI l]⟩) (fun l => l.length ≤ 4294967296) (List Int) (fun l m => l.Perm m ∧ Pl.SortedV m) fun _ m => (.tup [], [arI m]))
def K_Compact : Nat × Contract := (Nm.slices_Compact_Sint_int, .eff (List Int) (fun l => ⟨[.osl 0 0 l.length], [arI l]⟩) (fun l => l.length ≤ 4294967296) Unit (fun _ _ => True) fun l _ => (.osl 0 0 (Pl.compactL l).length, [arI (Pl.compactL l ++ List.replicate (l.length - (Pl.compactL l).length) 0)]))
def K_iClauseOf : Nat × Contract := (Nm.impl_ClauseOf, .im (List Int) (fun x => [ints x]) (fun x => x.length ≤ 1073741824) fun x => .tup [ints (Pl.clauseOf x).1, bl (Pl.clauseOf x).2])
def A_iClauseOf (l : List Int) : List Ann :=
  [.mk Nat (fun x => x ≤ l.length ∧ l.all (Pl.fineMark l) = (l.drop x).all (Pl.fineMark l)) (fun x => { fr := pad [ints l, .any, .any, .any, .any, .any, .any, ints l, i64 l.length, i64 x] 29, H := [] }) (fun x => l.length - x) (fun _ => [])]
end Cg
