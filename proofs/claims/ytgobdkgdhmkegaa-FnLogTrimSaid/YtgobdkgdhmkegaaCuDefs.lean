/-
  Plain functions, and what is known of the codes' callees and loops: unit propagation is sound. No condition.
-/
import Derived.Test.YtgobdkgdhmkegaaDrawDefs
namespace Pl
def ones (l : List Int) (v : List Bool) : Bool := l.all fun x => clauseIs [x] v
end Pl
namespace Cg
open Go
abbrev CuI (x : Pl.Cnf × List Int × Pl.Cnf × List Bool × Nat) : Prop := Sm x.1 ∧ x.2.1.length ≤ 101 ∧ Sm x.2.2.1 ∧ x.2.2.2.1.length ≤ 101 ∧ x.2.1.length ≤ (Pl.cnfUnits x.1 x.2.1).1.length
def K_yCnfUnits : Nat × Contract := (Nm.laws_FnCnfUnits, .sc (List Int) (fun b => [byts b]) Byt fun _ => bl true)
def A_yCnfUnits : List Ann :=
  [.mk (Pl.Cnf × List Int × Pl.Cnf × List Bool × Nat) (fun x => CuI x ∧ x.2.2.2.2 ≤ x.2.1.length)
    (fun x => { fr := pad [.any, .any, .any, .ptr 0 0, ints x.2.1, .ptr 1 0, bools x.2.2.2.1, ints (Pl.cnfUnits x.1 x.2.1).1, bl (Pl.cnfUnits x.1 x.2.1).2, .any, .any, bl (Pl.cnfIs x.1 x.2.2.2.1 && Pl.ones (x.2.1.take x.2.2.2.2) x.2.2.2.1), i64 x.2.2.2.2] 106, H := [.var [i64 x.1.1, intss x.1.2], .var [i64 x.2.2.1.1, intss x.2.2.1.2]] }) (fun x => x.2.1.length - x.2.2.2.2) (fun _ => []),
   .mk (Pl.Cnf × List Int × Pl.Cnf × List Bool × Nat) (fun x => CuI x ∧ x.2.2.2.2 ≤ (Pl.cnfUnits x.1 x.2.1).1.length ∧ Pl.cnfIs x.1 x.2.2.2.1 = true ∧ Pl.ones x.2.1 x.2.2.2.1 = true)
    (fun x => { fr := pad [.any, .any, .any, .ptr 0 0, ints x.2.1, .ptr 1 0, bools x.2.2.2.1, ints (Pl.cnfUnits x.1 x.2.1).1, bl (Pl.cnfUnits x.1 x.2.1).2, .any, .any, .any, .any, i64 x.2.2.2.2] 106, H := [.var [i64 x.1.1, intss x.1.2], .var [i64 x.2.2.1.1, intss x.2.2.1.2]] }) (fun x => (Pl.cnfUnits x.1 x.2.1).1.length - x.2.2.2.2) (fun _ => [])]
end Cg
