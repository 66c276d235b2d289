/-
  Plain functions, and what is known of the codes' callees and loops: unit propagation. No condition.
-/
import Derived.Test.YtgobdkgdhmkegaaCnfDefs
namespace Pl
/-- 1, if a mark is put as it is wanted, -1, if the other way, else 0. -/
def at_ (n : Int) : List Int → Int
  | [] => 0
  | p :: r => if p = n then 1 else if p = wneg n then -1 else at_ n r
def leftL (put : List Int) : List Int → Nat → Int → Nat × Int
  | [], n, l => (n, l)
  | x :: xs, n, l => if at_ x put = 1 then (2, 0) else if at_ x put = 0 then leftL put xs (n + 1) (if n = 0 then x else l) else leftL put xs n l
def left (put c : List Int) : Nat × Int := leftL put c 0 0
/-- The first clause that is falsified, or that makes a mark true. -/
def scanS (put : List Int) : List (List Int) → Option (Option Int)
  | [] => none
  | c :: cs => if (left put c).1 = 0 then some none else if (left put c).1 = 1 then some (some (left put c).2) else scanS put cs
def unitsF (scan : List Int → List (List Int) → Option (Option Int)) (list : List (List Int)) : Nat → List Int → List Int × Bool
  | 0, put => (put, false)
  | k + 1, put => match scan put list with
    | none => (put, false)
    | some none => (put, true)
    | some (some l) => unitsF scan list k (put ++ [l])
def unitsS (list : List (List Int)) (put : List Int) : List Int × Bool := unitsF scanS list 61 put
def unitL (put : List Int) : List Int → Int → Nat → Int × Bool
  | [], f, k => (if k > 1 then 0 else f, decide (k = 0))
  | x :: xs, f, k => if put.contains x then (0, false) else if put.contains (wneg x) then unitL put xs f k else unitL put xs x (k + 1)
def unit (c put : List Int) : Int × Bool := unitL put c 0 0
def scanI (put : List Int) : List (List Int) → Option (Option Int)
  | [] => none
  | c :: cs => if (unit c put).2 then some none else if (unit c put).1 ≠ 0 then some (some (unit c put).1) else scanI put cs
def unitsI (list : List (List Int)) (put : List Int) : List Int × Bool := unitsF scanI list 61 put
def nots (l : List Int) : List Int := l.map wneg
/-- How many variables are not put yet. -/
def uncov (put : List Int) : Nat := ((List.range 60).filter fun (v : Nat) => !(put.contains ((v : Int) + 1) || put.contains (-((v : Int) + 1)))).length
/-- Nothing is put both ways. -/
def Cons (put : List Int) : Prop := ∀ x ∈ put, x ≠ 0 ∧ -60 ≤ x ∧ x ≤ 60 ∧ -x ∉ put
def sumLen {α : Type} : List (List α) → Int
  | [] => 0
  | x :: xs => x.length + sumLen xs
def rup (c : Cnf) (cl : List Int) : Bool := cnfOk c && specClause cl c.1 && (unitsS c.2 (nots cl)).2
def logAll (c : Cnf) (log : List (List Int)) (i : Nat) : Bool := (List.range' i (log.length - i)).all fun j => rup (c.1, c.2 ++ log.take j) (log.getD j [])
def logOk (c : Cnf) (log : List (List Int)) : Bool := cnfOk c && decide (log.length ≤ 130) && decide (c.2.length + log.length ≤ 400) && logAll c log 0
end Pl
namespace Cg
open Go
abbrev SzH {α : Type} (l : List α) : Prop := l.length ≤ 2147483648
def K_l10At : Nat × Contract := (Nm.spec_l10At, .sc (List Int × Int) (fun x => [ints x.1, i64 x.2]) (fun x => Sz x.1) fun x => i64 (Pl.at_ x.2 x.1))
def K_l10Left : Nat × Contract := (Nm.spec_l10Left, .sc (List Int × List Int) (fun x => [ints x.1, ints x.2]) (fun x => Sz x.1 ∧ Sz x.2) fun x => .tup [i64 (Pl.left x.1 x.2).1, i64 (Pl.left x.1 x.2).2])
def K_l10Units : Nat × Contract := (Nm.spec_l10Units, .im (Pl.Cnf × List Int) (fun x => [cnf x.1, ints x.2]) (fun x => Pl.cnfOk x.1 = true ∧ SzC x.1 ∧ SzH x.2) fun x => .tup [ints (Pl.unitsS x.1.2 x.2).1, bl (Pl.unitsS x.1.2 x.2).2])
def K_l10Nots : Nat × Contract := (Nm.spec_l10Nots, .im (List Int) (fun l => [ints l]) SzH fun l => ints (Pl.nots l))
def K_sCnfRup : Nat × Contract := (Nm.spec_CnfRup, .sc (Pl.Cnf × List Int) (fun x => [cnf x.1, ints x.2]) (fun x => SzC x.1 ∧ SzH x.2) fun x => bl (Pl.rup x.1 x.2))
def K_Index : Nat × Contract := (Nm.slices_Index_Sint_int, .sc (List Int × Int) (fun x => [ints x.1, i64 x.2]) (fun x => Sz x.1) fun x => i64 (Pl.idx (fun y => decide (x.2 = y)) x.1))
def K_Contains : Nat × Contract := (Nm.slices_Contains_Sint_int, .sc (List Int × Int) (fun x => [ints x.1, i64 x.2]) (fun x => Sz x.1) fun x => bl (x.1.contains x.2))
def K_Clone : Nat × Contract := (Nm.slices_Clone_Sint_int, .eff (List Int) (fun l => ⟨[ints l], []⟩) SzH Unit (fun _ _ => True) fun l _ => (.osl 0 0 l.length, [arI l]))
def K_unit : Nat × Contract := (Nm.impl_unit, .sc (List Int × List Int) (fun x => [ints x.1, ints x.2]) (fun x => Sz x.1 ∧ Sz x.2) fun x => .tup [i64 (Pl.unit x.1 x.2).1, bl (Pl.unit x.1 x.2).2])
def K_units : Nat × Contract := (Nm.impl_units, .im (List (List Int) × List Int) (fun x => [intss x.1, ints x.2]) (fun x => (∃ m, Pl.cnfOk (m, x.1) = true) ∧ SzL x.1 ∧ SzH x.2) fun x => .tup [ints (Pl.unitsI x.1 x.2).1, bl (Pl.unitsI x.1 x.2).2])
def K_negated : Nat × Contract := (Nm.impl_negated, .im (List Int) (fun l => [ints l]) SzH fun l => ints (Pl.nots l))
def K_iCnfRup : Nat × Contract := (Nm.impl_CnfRup, .sc (Pl.Cnf × List Int) (fun x => [cnf x.1, ints x.2]) (fun x => SzC x.1 ∧ SzH x.2) fun x => bl (Pl.rup x.1 x.2))
def K_GrowII : Nat × Contract := (Nm.slices_Grow_SSint_Sint, .eff Int (fun n => ⟨[nilA, i64 n], []⟩) (fun n => 0 ≤ n ∧ n ≤ 4294967296) Unit (fun _ _ => True) fun _ _ => (.osl 0 0 0, [arII []]))
def K_ConcatII : Nat × Contract := (Nm.slices_Concat_SSint_Sint, .im (List (List (List Int))) (fun x => [intsss x]) (fun x => x.length ≤ 4 ∧ ∀ y ∈ x, y.length ≤ 1073741824) fun x => intss x.flatten)
def K_sLogOk : Nat × Contract := (Nm.spec_LogOk, .sc (Pl.Cnf × List (List Int)) (fun x => [cnf x.1, intss x.2]) (fun x => SzC x.1 ∧ Sz x.2 ∧ ∀ y ∈ x.2, SzH y) fun x => bl (Pl.logOk x.1 x.2))
def K_iLogOk : Nat × Contract := (Nm.impl_LogOk, .sc (Pl.Cnf × List (List Int)) (fun x => [cnf x.1, intss x.2]) (fun x => SzC x.1 ∧ Sz x.2 ∧ ∀ y ∈ x.2, SzH y) fun x => bl (Pl.logOk x.1 x.2))
def A_l10At (l : List Int) (n : Int) : List Ann :=
  [.mk Nat (fun x => x ≤ l.length ∧ Pl.at_ n l = Pl.at_ n (l.drop x)) (fun x => { fr := pad [ints l, i64 n, .any, .any, .any, i64 x] 25, H := [] }) (fun x => l.length - x) (fun _ => [])]
def A_l10Left (put c : List Int) : List Ann :=
  [.mk (Nat × Nat × Int) (fun x => x.1 ≤ c.length ∧ x.2.1 ≤ x.1 ∧ Pl.left put c = Pl.leftL put (c.drop x.1) x.2.1 x.2.2) (fun x => { fr := pad [ints put, ints c, .any, .any, .any, .any, i64 x.2.1, i64 x.2.2, i64 x.1] 35, H := [] }) (fun x => c.length - x.1) (fun _ => [])]
def A_l10Units (c : Pl.Cnf) (put : List Int) : List Ann :=
  [.mk (Nat × Nat × List Int) (fun x => x.1 ≤ c.2.length ∧ Pl.unitsS c.2 put = Pl.unitsF Pl.scanS c.2 x.2.1 x.2.2 ∧ Pl.uncov x.2.2 < x.2.1 ∧ Pl.scanS x.2.2 c.2 = Pl.scanS x.2.2 (c.2.drop x.1) ∧ x.2.2.length + x.2.1 = put.length + 61)
    (fun x => { fr := pad [.any, ints put, .ptr 0 0, .any, .any, .any, .osl 1 0 x.2.2.length, i64 x.1] 40, H := [.var [i64 c.1, intss c.2], arI x.2.2] }) (fun x => x.2.1 * (c.2.length + 1) + (c.2.length - x.1)) (fun _ => [])]
def A_l10Nots (l : List Int) : List Ann :=
  [.mk (Nat × List Int) (fun x => x.1 ≤ l.length ∧ x.2.length = x.1 ∧ Pl.nots l = x.2 ++ Pl.nots (l.drop x.1)) (fun x => { fr := pad [ints l, .any, .any, .osl 0 0 x.2.length, i64 x.1] 21, H := [arI x.2] }) (fun x => l.length - x.1) (fun _ => [])]
def A_Index (l : List Int) (n : Int) : List Ann :=
  [.mk Nat (fun x => x ≤ l.length ∧ Pl.idx (fun y => decide (n = y)) l = if Pl.idx (fun y => decide (n = y)) (l.drop x) < 0 then -1 else Pl.idx (fun y => decide (n = y)) (l.drop x) + x)
    (fun x => { fr := pad [ints l, i64 n, .any, .any, .any, .any, .any, i64 l.length, i64 x] 19, H := [] }) (fun x => l.length - x) (fun _ => [])]
def A_unit (c put : List Int) : List Ann :=
  [.mk (Nat × Int × Nat) (fun x => x.1 ≤ c.length ∧ x.2.2 ≤ x.1 ∧ Pl.unit c put = Pl.unitL put (c.drop x.1) x.2.1 x.2.2) (fun x => { fr := pad [ints c, ints put, .any, .any, .any, .any, i64 x.2.1, i64 x.2.2, .any, .any, ints c, i64 c.length, i64 x.1] 35, H := [] }) (fun x => c.length - x.1) (fun _ => [])]
def A_units (list : List (List Int)) (put : List Int) : List Ann :=
  [.mk (Nat × List Int) (fun x => Pl.unitsI list put = Pl.unitsF Pl.scanI list x.1 x.2 ∧ Pl.uncov x.2 < x.1 ∧ x.2.length + x.1 = put.length + 61)
    (fun x => { fr := pad [intss list, ints put, .any, .any, .any, .any, .osl 0 0 x.2.length] 39, H := [arI x.2] }) (fun x => x.1)
    (fun x => [.mk Nat (fun i => i ≤ list.length ∧ Pl.scanI x.2 list = Pl.scanI x.2 (list.drop i))
      (fun i => { fr := pad [intss list, ints put, .any, .any, .any, .any, .osl 0 0 x.2.length, i64 0, .any, .any, .any, .any, .any, .any, intss list, i64 list.length, i64 i] 39, H := [arI x.2] }) (fun i => list.length - i) (fun _ => [])])]
def A_negated (l : List Int) : List Ann :=
  [.mk (Nat × List Int) (fun x => x.1 ≤ l.length ∧ x.2.length = x.1 ∧ Pl.nots l = x.2 ++ Pl.nots (l.drop x.1)) (fun x => { fr := pad [ints l, .any, .any, .osl 0 0 x.2.length, .any, .any, ints l, i64 l.length, i64 x.1] 19, H := [arI x.2] }) (fun x => l.length - x.1) (fun _ => [])]
def A_ConcatII (ls : List (List (List Int))) : List Ann :=
  [.mk Nat (fun x => x ≤ ls.length) (fun x => { fr := pad [intsss ls, .any, .any, i64 (Pl.sumLen (ls.take x)), .any, .any, .any, .any, .any, intsss ls, i64 ls.length, i64 x] 36, H := [] }) (fun x => ls.length - x) (fun _ => []),
   .mk (Nat × List (List Int)) (fun x => x.1 ≤ ls.length ∧ Eqq x.2 (ls.take x.1).flatten) (fun x => { fr := pad [intsss ls, .any, .any, .any, .any, .any, .osl 0 0 x.2.length, .any, .any, .any, .any, .any, .any, .any, .any, .any, .any, .any, .any, .any, .any, .any, .any, .any, .any, intsss ls, i64 ls.length, i64 x.1] 36, H := [arII x.2] }) (fun x => ls.length - x.1) (fun _ => [])]
def A_sLogOk (c : Pl.Cnf) (log : List (List Int)) : List Ann :=
  [.mk (Nat × List (List Int)) (fun x => x.1 ≤ log.length ∧ Eqq x.2 (c.2 ++ log.take x.1) ∧ Pl.logOk c log = Pl.logAll c log x.1) (fun x => { fr := pad [.any, intss log, .any, .any, .any, .ptr 0 0, i64 x.1] 53, H := [.var [i64 c.1, .osl 1 0 x.2.length], arII x.2] }) (fun x => log.length - x.1) (fun _ => [])]
def A_iLogOk (c : Pl.Cnf) (log : List (List Int)) : List Ann :=
  [.mk Nat (fun x => x ≤ log.length ∧ Pl.logOk c log = Pl.logAll c log x) (fun x => { fr := pad [.any, intss log, .ptr 0 0, .any, .any, .ptr 1 0, .any, .any, .any, .any, .any, .any, .any, .any, .any, .any, .any, .any, .any, .any, .any, .any, .any, .any, .any, .any, .any, .any, .any, .any, .any, .any, .any, intss log, i64 log.length, i64 x] 55, H := [.var [i64 c.1, intss c.2], .var [i64 c.1, intss (c.2 ++ log)]] }) (fun x => log.length - x) (fun _ => [])]
end Cg
