/-
  Plain functions, and what is known of the codes' callees and loops: clause sets. No condition.
-/
import Derived.Test.YtjhiaobcbbnhnaaGreatRowsDefs
namespace Pl
abbrev Cnf := Int × List (List Int)
def cnfOk (c : Cnf) : Bool := decide (0 ≤ c.1) && decide (c.1 ≤ 60) && decide (c.2.length ≤ 400) && c.2.all fun x => specClause x c.1
def cnfIs (c : Cnf) (v : List Bool) : Bool := cnfOk c && decide ((v.length : Int) = c.1) && c.2.all fun x => clauseIs x v
end Pl
namespace Cg
open Go
def cnf (c : Pl.Cnf) : AV := .agg [i64 c.1, intss c.2]
def patCnf (m : Int) (l : List (List Int)) : AV := cnf (m, l)
abbrev SzC (c : Pl.Cnf) : Prop := SzL c.2
def A_l5Ints (l m : List Int) : List Ann :=
  [.mk Nat (fun x => x ≤ l.length ∧ l.length = m.length ∧ (l = m ↔ l.drop x = m.drop x)) (fun x => { fr := pad [ints l, ints m, .any, .any, .any, i64 x] 26, H := [] }) (fun x => l.length - x) (fun _ => [])]
def A_slEqual (l m : List Int) : List Ann :=
  [.mk Nat (fun x => x ≤ l.length ∧ l.length = m.length ∧ (l = m ↔ l.drop x = m.drop x)) (fun x => { fr := pad [ints l, ints m, .any, .any, .any, .any, .any, .any, .any, .any, .any, .any, i64 l.length, i64 x] 26, H := [] }) (fun x => l.length - x) (fun _ => [])]
def A_sCnfSame (c d : Pl.Cnf) : List Ann :=
  [.mk Nat (fun x => x ≤ c.2.length ∧ c.2.length = d.2.length ∧ c.1 = d.1 ∧ (c.2 = d.2 ↔ c.2.drop x = d.2.drop x)) (fun x => { fr := pad [.any, .any, .ptr 0 0, .ptr 1 0, .any, i64 x] 39, H := [.var [i64 c.1, intss c.2], .var [i64 d.1, intss d.2]] }) (fun x => c.2.length - x) (fun _ => [])]
def A_sCnfOk (c : Pl.Cnf) : List Ann :=
  [.mk Nat (fun x => x ≤ c.2.length ∧ Pl.cnfOk c = (c.2.drop x).all fun y => Pl.specClause y c.1) (fun x => { fr := pad [.any, .ptr 0 0, .any, i64 x] 34, H := [.var [i64 c.1, intss c.2]] }) (fun x => c.2.length - x) (fun _ => [])]
def A_sCnfIs (c : Pl.Cnf) (v : List Bool) : List Ann :=
  [.mk Nat (fun x => x ≤ c.2.length ∧ Pl.cnfIs c v = (c.2.drop x).all fun y => Pl.clauseIs y v) (fun x => { fr := pad [.any, bools v, .ptr 0 0, .any, .any, i64 x] 31, H := [.var [i64 c.1, intss c.2]] }) (fun x => c.2.length - x) (fun _ => [])]
end Cg
