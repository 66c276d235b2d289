/-
  Plain functions, and what is known of the codes' callees and loops: drawn clause sets. No condition.
-/
import Derived.Test.YtgobdkgdhmkegaaUnitsDefs
namespace Pl
/-- One more mark in order; false, if it is there the other way. -/
def putS : List Int → Int → List Int × Bool
  | [], n => ([n], true)
  | x :: xs, n => if absW x < absW n then (x :: (putS xs n).1, (putS xs n).2) else if absW x = absW n then (x :: xs, decide (x = n)) else (n :: x :: xs, true)
def badMark (x : Int) : Bool := decide (x = 0) || decide (absW x > 60)
def clauseL : List Int → List Int → List Int × Bool
  | [], out => (out, true)
  | x :: xs, out => if (putS out x).2 then clauseL xs (putS out x).1 else ([], false)
def clauseOf (l : List Int) : List Int × Bool := if l.any badMark then ([], false) else clauseL l []
def rightS (many : Int) : List Int → List Int → Bool
  | _, [] => true
  | done, x :: xs => !(decide (x = 0) || decide (absW x > many) || decide (at_ x done ≠ 0)) && rightS many (done ++ [x]) xs
def rightI (many : Int) : List Int → List Int → Bool
  | _, [] => true
  | done, x :: xs => !(!isMark x many || done.contains x || done.contains (wneg x)) && rightI many (done ++ [x]) xs
def cnfUnits (c : Cnf) (put : List Int) : List Int × Bool := if cnfOk c && rightS c.1 [] put then unitsS c.2 put else ([], false)
end Pl
namespace Cg
open Go
/-- A reader over some bytes, at a place up to a bound. -/
def Rd (m : Int) (b : List Int) (p : Int) : Prop := b.length ≤ 2000 ∧ (∀ x ∈ b, 0 ≤ x ∧ x < 256) ∧ 0 ≤ p ∧ p ≤ m
def Byt (b : List Int) : Prop := ∀ x ∈ b, 0 ≤ x ∧ x < 256
/-- A small clause set. -/
def Sm (c : Pl.Cnf) : Prop := c.1 ≤ 61 ∧ c.2.length ≤ 100 ∧ ∀ x ∈ c.2, x.length ≤ 100
def rdO (b : List Int) (p : Int) : AObj := .var [byts b, i64 p]

def K_l16Open : Nat × Contract := (Nm.spec_l16Open, .eff (List Int) (fun b => ⟨[byts b], []⟩) (fun b => Sz b ∧ Byt b) (List Int) (fun _ y => Rd 0 y 0) fun _ y => (.ptr 0 0, [.var [byts y, i64 0]]))
def K_pick : Nat × Contract := (Nm.spec_l16Rd_pick, .eff (List Int × Int × Int) (fun x => ⟨[.ptr 0 0, i64 x.2.2], [.var [byts x.1, i64 x.2.1]]⟩) (fun x => Rd 1099511627776 x.1 x.2.1) Int (fun x y => (1 ≤ x.2.2 → 0 ≤ y ∧ y < x.2.2) ∧ (x.2.2 < 1 → y = 0)) fun x y => (i64 y, [.var [byts x.1, i64 (x.2.1 + 1)]]))
def K_num : Nat × Contract := (Nm.spec_l16Rd_num, .eff (List Int × Int × List Int) (fun x => ⟨[.ptr 0 0, ints x.2.2], [.var [byts x.1, i64 x.2.1]]⟩) (fun x => Rd 1099511627776 x.1 x.2.1 ∧ x.2.2 ≠ [] ∧ Sz x.2.2) Int (fun x y => y ∈ x.2.2) fun x y => (i64 y, [.var [byts x.1, i64 (x.2.1 + 1)]]))
def K_l1Max2 : Nat × Contract := (Nm.spec_l1Max2, .sc (Int × Int) (fun x => [i64 x.1, i64 x.2]) (fun _ => True) fun x => i64 (if x.1 > x.2 then x.1 else x.2))
def K_l10Mark : Nat × Contract := (Nm.spec_l10Mark, .eff (List Int × Int × Int) (fun x => ⟨[.ptr 0 0, i64 x.2.2], [.var [byts x.1, i64 x.2.1]]⟩) (fun x => Rd 549755813888 x.1 x.2.1) (Int × Int) (fun x y => x.2.1 ≤ y.2 ∧ y.2 ≤ x.2.1 + 3) fun x y => (i64 y.1, [.var [byts x.1, i64 y.2]]))
def K_l10Marks : Nat × Contract := (Nm.spec_l10Marks, .eff (List Int × Int × Int × Int) (fun x => ⟨[.ptr 0 0, i64 x.2.2.1, i64 x.2.2.2], [.var [byts x.1, i64 x.2.1]]⟩) (fun x => Rd 274877906944 x.1 x.2.1 ∧ x.2.2.2 ≤ 100) (List Int × Int) (fun x y => y.1.length ≤ 100 ∧ x.2.1 ≤ y.2 ∧ y.2 ≤ x.2.1 + 300) fun x y => (ints y.1, [.var [byts x.1, i64 y.2]]))
def K_l10Vals : Nat × Contract := (Nm.spec_l10Vals, .eff (List Int × Int × Int) (fun x => ⟨[.ptr 0 0, i64 x.2.2], [.var [byts x.1, i64 x.2.1]]⟩) (fun x => Rd 274877906944 x.1 x.2.1 ∧ x.2.2 ≤ 100) (List Bool × Int) (fun x y => y.1.length ≤ 101 ∧ x.2.1 ≤ y.2 ∧ y.2 ≤ x.2.1 + 300) fun x y => (bools y.1, [.var [byts x.1, i64 y.2]]))
def K_l10Put : Nat × Contract := (Nm.spec_l10Put, .im (List Int × Int) (fun x => [ints x.1, i64 x.2]) (fun x => SzH x.1) fun x => .tup [ints (Pl.putS x.1 x.2).1, bl (Pl.putS x.1 x.2).2])
def K_sClauseOf : Nat × Contract := (Nm.spec_ClauseOf, .im (List Int) (fun x => [ints x]) (fun x => x.length ≤ 1073741824) fun x => .tup [ints (Pl.clauseOf x).1, bl (Pl.clauseOf x).2])
def K_l10Cnf : Nat × Contract := (Nm.spec_l10Cnf, .eff (List Int × Int) (fun x => ⟨[.ptr 0 0], [.var [byts x.1, i64 x.2]]⟩) (fun x => Rd 137438953472 x.1 x.2) (Pl.Cnf × Int) (fun x y => Sm y.1 ∧ x.2 ≤ y.2 ∧ y.2 ≤ x.2 + 10000) fun x y => (cnf y.1, [.var [byts x.1, i64 y.2]]))
def K_DrawCnfIs : Nat × Contract := (Nm.spec_DrawCnfIs, .eff (List Int) (fun b => ⟨[byts b], []⟩) (fun b => Sz b ∧ Byt b) (Pl.Cnf × List Bool) (fun _ y => Sm y.1 ∧ y.2.length ≤ 101) fun _ y => (.tup [cnf y.1, bools y.2], []))
def K_DrawCnfUnits : Nat × Contract := (Nm.spec_DrawCnfUnits, .eff (List Int) (fun b => ⟨[byts b], []⟩) (fun b => Sz b ∧ Byt b) (Pl.Cnf × List Int) (fun _ y => Sm y.1 ∧ y.2.length ≤ 101) fun _ y => (.tup [cnf y.1, ints y.2], []))
def K_wpNums : Nat × Contract := (Nm.laws_wpNums, .sc (List Int × List Int) (fun x => [ints x.1, ints x.2]) (fun x => Sz x.1) fun x => bl (decide (x.1 = x.2)))
def K_l10Right : Nat × Contract := (Nm.spec_l10Right, .sc (List Int × Int) (fun x => [ints x.1, i64 x.2]) (fun x => Sz x.1) fun x => bl (Pl.rightS x.2 [] x.1))
def K_sCnfUnits : Nat × Contract := (Nm.spec_CnfUnits, .im (Pl.Cnf × List Int) (fun x => [cnf x.1, ints x.2]) (fun x => SzC x.1 ∧ SzH x.2) fun x => .tup [ints (Pl.cnfUnits x.1 x.2).1, bl (Pl.cnfUnits x.1 x.2).2])
def K_iCnfUnits : Nat × Contract := (Nm.impl_CnfUnits, .im (Pl.Cnf × List Int) (fun x => [cnf x.1, ints x.2]) (fun x => SzC x.1 ∧ SzH x.2) fun x => .tup [ints (Pl.cnfUnits x.1 x.2).1, bl (Pl.cnfUnits x.1 x.2).2])
def A_l10Marks (b : List Int) (p many n : Int) : List Ann :=
  [.mk (Nat × List Int × Int) (fun x => x.2.1.length = x.1 ∧ ((x.1 : Int) ≤ n ∨ x.1 = 0) ∧ p ≤ x.2.2 ∧ x.2.2 ≤ p + 3 * x.1) (fun x => { fr := pad [.ptr 0 0, i64 many, i64 n, .any, .any, .any, .any, .osl 1 0 x.2.1.length, i64 x.1] 22, H := [.var [byts b, i64 x.2.2], arI x.2.1] }) (fun x => (n - x.1).toNat) (fun _ => [])]
def A_l10Vals (b : List Int) (p many : Int) : List Ann :=
  [.mk (Nat × List Bool × Int) (fun x => x.2.1.length = x.1 ∧ ((x.1 : Int) ≤ many ∨ x.1 = 0) ∧ p ≤ x.2.2 ∧ x.2.2 ≤ p + x.1) (fun x => { fr := pad [.ptr 0 0, i64 many, .any, .any, .any, .osl 1 0 x.2.1.length, i64 x.1] 26, H := [.var [byts b, i64 x.2.2], arB x.2.1] }) (fun x => (many - x.1).toNat) (fun _ => [])]
def A_l10Put (l : List Int) (n : Int) : List Ann :=
  [.mk Nat (fun x => x ≤ l.length ∧ Pl.putS l n = (l.take x ++ (Pl.putS (l.drop x) n).1, (Pl.putS (l.drop x) n).2)) (fun x => { fr := pad [ints l, i64 n, .any, .any, .any, .any, i64 x] 60, H := [] }) (fun x => l.length - x) (fun _ => [])]
def A_sClauseOf (l : List Int) : List Ann :=
  [.mk Nat (fun x => x ≤ l.length ∧ l.any Pl.badMark = (l.drop x).any Pl.badMark) (fun x => { fr := pad [ints l, .any, .any, .any, nilA, i64 x] 50, H := [] }) (fun x => l.length - x) (fun _ => []),
   .mk (Nat × List Int) (fun x => x.1 ≤ l.length ∧ Pl.clauseOf l = Pl.clauseL (l.drop x.1) x.2 ∧ x.2.length ≤ x.1) (fun x => { fr := pad [ints l, .any, .any, .any, ints x.2, .any, i64 x.1] 50, H := [] }) (fun x => l.length - x.1) (fun _ => [])]
def A_l10Cnf (b : List Int) (p : Int) : List Ann :=
  [.mk (Int × Int × List (List Int) × Int) (fun x => 0 ≤ x.1 ∧ x.2.2.1.length + x.1 ≤ 12 ∧ x.2.1 ≤ 6 ∧ (∀ y ∈ x.2.2.1, y.length ≤ 100) ∧ p ≤ x.2.2.2 ∧ x.2.2.2 ≤ p + 2 + 400 * (12 - x.1))
    (fun x => { fr := pad [.ptr 0 0, .any, .ptr 1 0, .ptr 2 0, i64 x.1] 61, H := [.var [byts b, i64 x.2.2.2], .var [i64 0, nilA], .var [i64 x.2.1, .osl 3 0 x.2.2.1.length], arII x.2.2.1] }) (fun x => x.1.toNat) (fun _ => [])]
def A_wpNums (l m : List Int) : List Ann :=
  [.mk Nat (fun x => x ≤ l.length ∧ l.length = m.length ∧ (l = m ↔ l.drop x = m.drop x)) (fun x => { fr := pad [ints l, ints m, .any, .any, .any, i64 x] 26, H := [] }) (fun x => l.length - x) (fun _ => [])]
def A_l10Right (l : List Int) (many : Int) : List Ann :=
  [.mk Nat (fun x => x ≤ l.length ∧ Pl.rightS many [] l = Pl.rightS many (l.take x) (l.drop x)) (fun x => { fr := pad [ints l, i64 many, .any, .any, .any, i64 x] 37, H := [] }) (fun x => l.length - x) (fun _ => [])]
def A_iCnfUnits (c : Pl.Cnf) (put : List Int) : List Ann :=
  [.mk Nat (fun x => x ≤ put.length ∧ Pl.rightI c.1 [] put = Pl.rightI c.1 (put.take x) (put.drop x)) (fun x => { fr := pad [.any, ints put, .ptr 0 0, .any, .any, .any, .any, .any, .any, .any, .any, ints put, i64 put.length, i64 x] 45, H := [.var [i64 c.1, intss c.2]] }) (fun x => put.length - x) (fun _ => [])]
def A_yCnfIs (code : List Int) : List Ann :=
  [.mk (Pl.Cnf × List Bool × Nat × Bool × Bool) (fun x => Sm x.1 ∧ x.2.1.length ≤ 101 ∧ x.2.2.1 ≤ x.1.2.length ∧ x.2.2.2.2 = Pl.cnfIs x.1 x.2.1 ∧ (Pl.cnfIs x.1 x.2.1 = (x.2.2.2.1 && (x.1.2.drop x.2.2.1).all fun y => Pl.clauseIs y x.2.1)))
    (fun x => { fr := pad [.any, byts code, .any, .any, .any, .ptr 0 0, bools x.2.1, bl x.2.2.2.2, bl x.2.2.2.1, i64 x.2.2.1] 90, H := [.var [i64 x.1.1, intss x.1.2]] }) (fun x => x.1.2.length - x.2.2.1) (fun _ => [])]
def A_yCnfRup : List Ann :=
  [.mk (Pl.Cnf × List Int × Pl.Cnf × List Bool × Nat) (fun x => Sm x.1 ∧ x.2.1.length ≤ 101 ∧ Sm x.2.2.1 ∧ x.2.2.2.1.length ≤ 101 ∧ x.2.2.2.2 ≤ x.1.2.length)
    (fun x => { fr := pad [.any, .any, .any, .ptr 0 0, ints x.2.1, .ptr 1 0, bools x.2.2.2.1, bl (Pl.rup x.1 x.2.1), i64 x.2.2.2.2] 73, H := [.var [i64 x.1.1, intss x.1.2], .var [i64 x.2.2.1.1, intss x.2.2.1.2]] }) (fun x => x.1.2.length - x.2.2.2.2) (fun _ => [])]
end Cg
