/-
  Plain functions, and what is known of the codes' callees and loops: clause sets. No condition.
-/
import Derived.Test.YtgobdkgdhmkegaaRowsDefs
namespace Pl
abbrev Cnf := Int × List (List Int)
def cnfOk (c : Cnf) : Bool := decide (0 ≤ c.1) && decide (c.1 ≤ 60) && decide (c.2.length ≤ 400) && c.2.all fun x => specClause x c.1
def cnfIs (c : Cnf) (v : List Bool) : Bool := cnfOk c && decide ((v.length : Int) = c.1) && c.2.all fun x => clauseIs x v
end Pl
namespace Cg
open Go
def cnf (c : Pl.Cnf) : AV := .agg [i64 c.1, intss c.2]
def patCnf (m : Int) (l : List (List Int)) : AV := cnf (m, l)
abbrev SzC (c : Pl.Cnf) : Prop := SzL c.2
def K_szCnf : Nat × Contract := (Nm.laws_szCnf, .sc (Pl.Cnf × Int) (fun x => [cnf x.1, i64 x.2]) (fun x => MlL x.1.2 ∧ Fu x.2) fun x => i64 (Pl.szSS x.1.2 x.2))
def K_toCnf : Nat × Contract := (Nm.laws_toCnf, .im Pl.Cnf (fun c => [cnf c]) SzC cnf)
def K_eqCnf : Nat × Contract := (Nm.laws_eqCnf, .sc (Pl.Cnf × Pl.Cnf) (fun x => [cnf x.1, cnf x.2]) (fun x => SzC x.1) fun x => bl (decide (x.1 = x.2)))
def K_sCnfOk : Nat × Contract := (Nm.spec_CnfOk, .sc Pl.Cnf (fun c => [cnf c]) SzC fun c => bl (Pl.cnfOk c))
def K_iCnfOk : Nat × Contract := (Nm.impl_CnfOk, .sc Pl.Cnf (fun c => [cnf c]) SzC fun c => bl (Pl.cnfOk c))
def K_CnfOk1 : Nat × Contract := (Nm.impl_CnfOk_1, .sc (List Int × Pl.Cnf) (fun x => [ints x.1, refs [i64 x.2.1, intss x.2.2]]) (fun x => Sz x.1) fun x => bl (!Pl.specClause x.1 x.2.1))
def K_IndexCnfOk : Nat × Contract := (Nm.slices_IndexFunc_SSint_Sint, .sc (List (List Int) × Pl.Cnf) (fun x => [intss x.1, .fn (.func Nm.impl_CnfOk_1) [refs [i64 x.2.1, intss x.2.2]]]) (fun x => SzL x.1) fun x => i64 (Pl.idx (fun y => !Pl.specClause y x.2.1) x.1))
def K_ContainsCnfOk : Nat × Contract := (Nm.slices_ContainsFunc_SSint_Sint, .sc (List (List Int) × Pl.Cnf) (fun x => [intss x.1, .fn (.func Nm.impl_CnfOk_1) [refs [i64 x.2.1, intss x.2.2]]]) (fun x => SzL x.1) fun x => bl (x.1.any fun y => !Pl.specClause y x.2.1))
def K_iCnfIs : Nat × Contract := (Nm.impl_CnfIs, .sc (Pl.Cnf × List Bool) (fun x => [cnf x.1, bools x.2]) (fun x => SzC x.1 ∧ Sz x.2) fun x => bl (Pl.cnfIs x.1 x.2))
def K_CnfIs1 : Nat × Contract := (Nm.impl_CnfIs_1, .sc (List Int × List Bool) (fun x => [ints x.1, refs [bools x.2]]) (fun x => Sz x.1 ∧ Sz x.2) fun x => bl (!Pl.clauseIs x.1 x.2))
def K_IndexCnfIs : Nat × Contract := (Nm.slices_IndexFunc_SSint_Sint, .sc (List (List Int) × List Bool) (fun x => [intss x.1, .fn (.func Nm.impl_CnfIs_1) [refs [bools x.2]]]) (fun x => SzL x.1 ∧ Sz x.2) fun x => i64 (Pl.idx (fun y => !Pl.clauseIs y x.2) x.1))
def K_ContainsCnfIs : Nat × Contract := (Nm.slices_ContainsFunc_SSint_Sint, .sc (List (List Int) × List Bool) (fun x => [intss x.1, .fn (.func Nm.impl_CnfIs_1) [refs [bools x.2]]]) (fun x => SzL x.1 ∧ Sz x.2) fun x => bl (x.1.any fun y => !Pl.clauseIs y x.2))
def A_l5Ints (l m : List Int) : List Ann :=
  [.mk Nat (fun x => x ≤ l.length ∧ l.length = m.length ∧ (l = m ↔ l.drop x = m.drop x)) (fun x => { fr := pad [ints l, ints m, .any, .any, .any, i64 x] 26, H := [] }) (fun x => l.length - x) (fun _ => [])]
def A_slEqual (l m : List Int) : List Ann :=
  [.mk Nat (fun x => x ≤ l.length ∧ l.length = m.length ∧ (l = m ↔ l.drop x = m.drop x)) (fun x => { fr := pad [ints l, ints m, .any, .any, .any, .any, .any, .any, .any, .any, .any, .any, i64 l.length, i64 x] 26, H := [] }) (fun x => l.length - x) (fun _ => [])]
def A_sCnfSame (c d : Pl.Cnf) : List Ann :=
  [.mk Nat (fun x => x ≤ c.2.length ∧ c.2.length = d.2.length ∧ c.1 = d.1 ∧ (c.2 = d.2 ↔ c.2.drop x = d.2.drop x)) (fun x => { fr := pad [.any, .any, .ptr 0 0, .ptr 1 0, .any, i64 x] 39, H := [.var [i64 c.1, intss c.2], .var [i64 d.1, intss d.2]] }) (fun x => c.2.length - x) (fun _ => [])]
def A_sCnfOk (c : Pl.Cnf) : List Ann :=
  [.mk Nat (fun x => x ≤ c.2.length ∧ Pl.cnfOk c = (c.2.drop x).all fun y => Pl.specClause y c.1) (fun x => { fr := pad [.any, .ptr 0 0, .any, i64 x] 34, H := [.var [i64 c.1, intss c.2]] }) (fun x => c.2.length - x) (fun _ => [])]
def A_IndexCnfOk (l : List (List Int)) (c : Pl.Cnf) : List Ann :=
  [.mk Nat (fun x => x ≤ l.length ∧ Pl.idx (fun x => !Pl.specClause x c.1) l = if Pl.idx (fun x => !Pl.specClause x c.1) (l.drop x) < 0 then -1 else Pl.idx (fun x => !Pl.specClause x c.1) (l.drop x) + x)
    (fun x => { fr := pad [intss l, .fn (.func Nm.impl_CnfOk_1) [refs [i64 c.1, intss c.2]], .any, .any, .any, .any, .any, i64 l.length, i64 x] 19, H := [] }) (fun x => l.length - x) (fun _ => [])]
def A_IndexCnfIs (l : List (List Int)) (v : List Bool) : List Ann :=
  [.mk Nat (fun x => x ≤ l.length ∧ Pl.idx (fun x => !Pl.clauseIs x v) l = if Pl.idx (fun x => !Pl.clauseIs x v) (l.drop x) < 0 then -1 else Pl.idx (fun x => !Pl.clauseIs x v) (l.drop x) + x)
    (fun x => { fr := pad [intss l, .fn (.func Nm.impl_CnfIs_1) [refs [bools v]], .any, .any, .any, .any, .any, i64 l.length, i64 x] 19, H := [] }) (fun x => l.length - x) (fun _ => [])]
def A_sCnfIs (c : Pl.Cnf) (v : List Bool) : List Ann :=
  [.mk Nat (fun x => x ≤ c.2.length ∧ Pl.cnfIs c v = (c.2.drop x).all fun y => Pl.clauseIs y v) (fun x => { fr := pad [.any, bools v, .ptr 0 0, .any, .any, i64 x] 31, H := [.var [i64 c.1, intss c.2]] }) (fun x => c.2.length - x) (fun _ => [])]
end Cg
