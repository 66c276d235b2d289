/-
  Plain functions, and what is known of the codes' callees and loops: clauses. No condition.
-/
import Derived.Test.YtgobdkgdhmkegaaNums
namespace Pl
open Go
def wneg (x : Int) : Int := IntKind.i64.wrap (0 - x)
def absW (x : Int) : Int := if x < -60 then 61 else if x > 60 then 61 else if x < 0 then wneg x else x
def withinI (n lo hi : Int) : Bool := decide (lo ≤ n) && decide (n ≤ hi)
def isMark (l many : Int) : Bool := decide (l ≠ 0) && withinI l (wneg many) many
def varI (x : Int) : Int := if wneg x > x then wneg x else x
def specLoop (many last : Int) : List Int → Bool
  | [] => decide (many ≥ 0) && decide (many ≤ 60)
  | x :: xs => bif decide (absW x ≤ last) || decide (absW x > many) then false else specLoop many (absW x) xs
def specClause (l : List Int) (many : Int) : Bool := specLoop many 0 l
def implLoop (many : Int) : Option Int → List Int → Bool
  | _, [] => true
  | none, x :: xs => bif !isMark x many then false else implLoop many (some x) xs
  | some p, x :: xs => bif !isMark x many || decide (varI p ≥ varI x) then false else implLoop many (some x) xs
def implClause (l : List Int) (many : Int) : Bool := bif withinI many 0 60 then implLoop many none l else false
def prev (l : List Int) (k : Nat) : Option Int := if k = 0 then none else some (l.getD (k - 1) 0)
end Pl
namespace Cg
open Go
abbrev Sz {α : Type} (l : List α) : Prop := l.length ≤ 4294967296

def K_l10Abs : Nat × Contract := (Nm.spec_l10Abs, .sc Int (fun x => [i64 x]) (fun _ => True) (fun x => i64 (Pl.absW x)))
def K_within : Nat × Contract := (Nm.impl_within, .sc (Int × Int × Int) (fun x => [i64 x.1, i64 x.2.1, i64 x.2.2]) (fun _ => True) (fun x => bl (Pl.withinI x.1 x.2.1 x.2.2)))
def K_isMark : Nat × Contract := (Nm.impl_isMark, .sc (Int × Int) (fun x => [i64 x.1, i64 x.2]) (fun _ => True) (fun x => bl (Pl.isMark x.1 x.2)))
def K_variable : Nat × Contract := (Nm.impl_variable, .sc Int (fun x => [i64 x]) (fun _ => True) (fun x => i64 (Pl.varI x)))
def K_sClauseOk : Nat × Contract := (Nm.spec_ClauseOk, .sc (List Int × Int) (fun x => [ints x.1, i64 x.2]) (fun x => Sz x.1) (fun x => bl (Pl.specClause x.1 x.2)))
def K_iClauseOk : Nat × Contract := (Nm.impl_ClauseOk, .sc (List Int × Int) (fun x => [ints x.1, i64 x.2]) (fun x => Sz x.1) (fun x => bl (Pl.implClause x.1 x.2)))
def K_toIntS : Nat × Contract := (Nm.laws_toIntS, .im (List Int) (fun l => [ints l]) Sz ints)
def K_eqIntS : Nat × Contract := (Nm.laws_eqIntS, .sc (List Int × List Int) (fun x => [ints x.1, ints x.2]) (fun x => Sz x.1) (fun x => bl (decide (x.1 = x.2))))

def A_sClauseOk (l : List Int) (many : Int) : List Ann :=
  [.mk (Nat × Int) (fun x => x.1 ≤ l.length ∧ Pl.specClause l many = Pl.specLoop many x.2 (l.drop x.1)) (fun x => { fr := pad [ints l, i64 many, .any, .any, .any, i64 x.2, i64 x.1] 40, H := [] }) (fun x => l.length - x.1) (fun _ => [])]
def A_iClauseOk (l : List Int) (many : Int) : List Ann :=
  [.mk Nat (fun x => x ≤ l.length ∧ Pl.implClause l many = Pl.implLoop many (Pl.prev l x) (l.drop x)) (fun x => { fr := pad [ints l, i64 many, .any, .any, .any, .any, .any, .any, .any, .any, ints l, i64 l.length, i64 x] 37, H := [] }) (fun x => l.length - x) (fun _ => [])]
def A_toIntS (l : List Int) : List Ann :=
  [.mk (Nat × List Int) (fun x => x.1 ≤ l.length ∧ x.2.length = l.length ∧ x.2.take x.1 = l.take x.1) (fun x => { fr := pad [ints l, .any, .any, .osl 0 0 x.2.length, i64 x.1] 22, H := [arI x.2] }) (fun x => l.length - x.1) (fun _ => [])]
def A_eqIntS (l m : List Int) : List Ann :=
  [.mk Nat (fun x => x ≤ l.length ∧ l.length = m.length ∧ (l = m ↔ l.drop x = m.drop x)) (fun x => { fr := pad [ints l, ints m, .any, .any, .any, i64 x] 26, H := [] }) (fun x => l.length - x) (fun _ => [])]
end Cg
