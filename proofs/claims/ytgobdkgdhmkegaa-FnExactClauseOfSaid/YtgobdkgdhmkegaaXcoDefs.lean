/-
  Plain functions, and what is known of the codes' callees and loops: rows of numbers that are marked. No condition.
-/
import Derived.Test.YtgobdkgdhmkegaaSrtDefs
namespace Pl
/-- So many numbers from one on. -/
def seqI (k : Int) (n : Nat) : List Int := (List.range n).map fun (i : Nat) => k + i
def heldI (l : List Int) (k : Int) : Int := if l = seqI k l.length then k + l.length else -1
end Pl
namespace Cg
open Go
def K_toIntSO : Nat × Contract := (Nm.laws_toIntS, .eff (List Int) (fun l => ⟨[ints l], []⟩) Sz Unit (fun _ _ => True) fun l _ => (.osl 0 0 l.length, [arI l]))
def K_CloneO : Nat × Contract := (Nm.slices_Clone_Sint_int, .eff (List Int) (fun l => ⟨[.osl 0 0 l.length], [arI l]⟩) SzH Unit (fun _ _ => True) fun l _ => (.osl 1 0 l.length, [arI l, arI l]))
def K_iClauseOfO : Nat × Contract := (Nm.impl_ClauseOf, .eff (List Int) (fun l => ⟨[.osl 0 0 l.length], [arI l]⟩) (fun l => l.length ≤ 1073741824) (List Int) (fun _ _ => True) fun l y => (.tup [.osl 1 0 (Pl.clauseOf l).1.length, bl (Pl.clauseOf l).2], [arI l, arI ((Pl.clauseOf l).1 ++ y)]))
def K_sClauseOfF : Nat × Contract := (Nm.spec_ClauseOf, .imf (List Int) (fun x => [ints x]) (fun x => x.length ≤ 1073741824) fun x => .tup [ints (Pl.clauseOf x).1, bl (Pl.clauseOf x).2])
abbrev MkX := List Int × List Int × Int
def K_markIntS : Nat × Contract := (Nm.laws_markIntS, .eff MkX (fun x => ⟨[.osl 0 0 x.1.length, i64 x.2.2], [arI (x.1 ++ x.2.1)]⟩) (fun x => Sz x.1 ∧ 0 ≤ x.2.2 ∧ x.2.2 ≤ 1099511627776) Unit (fun _ _ => True) fun x _ => (i64 (x.2.2 + x.1.length), [arI (Pl.seqI x.2.2 x.1.length ++ x.2.1)]))
def K_heldIntS : Nat × Contract := (Nm.laws_heldIntS, .sc (List Int × Int) (fun x => [ints x.1, i64 x.2]) (fun x => Sz x.1 ∧ 0 ≤ x.2 ∧ x.2 ≤ 1099511627776) fun x => i64 (Pl.heldI x.1 x.2))
def K_xClauseOf : Nat × Contract := (Nm.laws_FnExactClauseOf, .sc (List Int) (fun x => [ints x]) (fun _ => True) fun _ => bl true)
def A_iClauseOfO (l : List Int) : List Ann :=
  [.mk Nat (fun x => x ≤ l.length ∧ l.all (Pl.fineMark l) = (l.drop x).all (Pl.fineMark l)) (fun x => { fr := pad [.osl 0 0 l.length, .any, nilA, .any, .any, .any, .any, .osl 0 0 l.length, i64 l.length, i64 x] 29, H := [arI l] }) (fun x => l.length - x) (fun _ => [])]
def A_markIntS (l r : List Int) (k : Int) : List Ann :=
  [.mk Nat (fun x => x ≤ l.length) (fun x => { fr := pad [.osl 0 0 l.length, i64 (k + x), .any, .any, .any, i64 x] 19, H := [arI (Pl.seqI k x ++ (l ++ r).drop x)] }) (fun x => l.length - x) (fun _ => [])]
def A_heldIntS (l : List Int) (k : Int) : List Ann :=
  [.mk Nat (fun x => x ≤ l.length ∧ l.take x = Pl.seqI k x) (fun x => { fr := pad [ints l, i64 (k + x), .any, .any, .any, i64 x] 21, H := [] }) (fun x => l.length - x) (fun _ => [])]
end Cg
