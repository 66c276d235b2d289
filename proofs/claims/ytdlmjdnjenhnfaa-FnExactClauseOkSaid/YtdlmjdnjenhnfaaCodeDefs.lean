/-
  Plain functions, and what is known of the codes' callees and loops: clauses. No condition.
-/
import Derived.Test.YtdlmjdnjenhnfaaTool
namespace Pl
open Go
def wneg (x : Int) : Int := IntKind.i64.wrap (0 - x)
def absW (x : Int) : Int := if x < -60 then 61 else if x > 60 then 61 else if x < 0 then wneg x else x
def withinI (n lo hi : Int) : Bool := decide (lo ≤ n) && decide (n ≤ hi)
def isMark (l many : Int) : Bool := decide (l ≠ 0) && withinI l (wneg many) many
def varI (x : Int) : Int := if wneg x > x then wneg x else x
def specLoop (many last : Int) : List Int → Bool
  | [] => decide (many ≥ 0) && decide (many ≤ 60)
  | x :: xs => bif decide (absW x ≤ last) || decide (absW x > many) then false else specLoop many (absW x) xs
def specClause (l : List Int) (many : Int) : Bool := specLoop many 0 l
def implLoop (many : Int) : Option Int → List Int → Bool
  | _, [] => true
  | none, x :: xs => bif !isMark x many then false else implLoop many (some x) xs
  | some p, x :: xs => bif !isMark x many || decide (varI p ≥ varI x) then false else implLoop many (some x) xs
def implClause (l : List Int) (many : Int) : Bool := bif withinI many 0 60 then implLoop many none l else false
def prev (l : List Int) (k : Nat) : Option Int := if k = 0 then none else some (l.getD (k - 1) 0)
end Pl
namespace Cg
open Go

def F58 : List AV → R
  | [.v (.int .i64 x)] => ok (i64 (Pl.absW x))
  | _ => none
def F59 : List AV → R
  | [.v (.int .i64 x), .v (.int .i64 y), .v (.int .i64 z)] => ok (bl (Pl.withinI x y z))
  | _ => none
def F60 : List AV → R
  | [.v (.int .i64 x), .v (.int .i64 y)] => ok (bl (Pl.isMark x y))
  | _ => none
def F61 : List AV → R
  | [.v (.int .i64 x)] => ok (i64 (Pl.varI x))
  | _ => none
def F18 : List AV → R
  | [a, .v (.int .i64 m)] => match ints? a with
    | some (p, l) => some ([p, l.length ≤ 1048576], bl (Pl.specClause l m))
    | none => none
  | _ => none
def F20 : List AV → R
  | [a, .v (.int .i64 m)] => match ints? a with
    | some (p, l) => some ([p, l.length ≤ 1048576], bl (Pl.implClause l m))
    | none => none
  | _ => none
def F19 : List AV → R
  | [a] => match ints? a with
    | some (p, l) => some ([p, l.length ≤ 1048576], ints l)
    | none => none
  | _ => none
def F21 : List AV → R
  | [a, b] => match ints? a, ints? b with
    | some (p, l), some (q, m) => some ([p, q, l.length ≤ 1048576], bl (decide (l = m)))
    | _, _ => none
  | _ => none

def G58 : Ctx := [(58, .sc F58)]
def G59 : Ctx := [(59, .sc F59)]
def G20 : Ctx := [(59, .sc F59), (60, .sc F60), (61, .sc F61)]
def G3 : Ctx := [(19, .im F19), (18, .sc F18), (20, .sc F20), (21, .sc F21)]

def pad (l : List AV) (n : Nat) : List AV := l ++ List.replicate n .any

def A18 (l : List Int) (many : Int) : List Ann :=
  [.mk (Nat × Int) (fun x => x.1 ≤ l.length ∧ Pl.specClause l many = Pl.specLoop many x.2 (l.drop x.1)) (fun x => { fr := pad [ints l, i64 many, .any, .any, .any, i64 x.2, i64 x.1] 33, H := [] }) (fun x => l.length - x.1) (fun _ => [])]
def A20 (l : List Int) (many : Int) : List Ann :=
  [.mk Nat (fun x => x ≤ l.length ∧ Pl.implClause l many = Pl.implLoop many (Pl.prev l x) (l.drop x)) (fun x => { fr := pad [ints l, i64 many, .any, .any, .any, .any, .any, .any, .any, .any, ints l, i64 l.length, i64 x] 24, H := [] }) (fun x => l.length - x) (fun _ => [])]
def A19 (l : List Int) : List Ann :=
  [.mk Nat (fun x => x ≤ l.length) (fun x => { fr := pad [ints l, .any, .any, .osl 0 0 l.length, i64 x] 17, H := [.arr l.length 1 fun i _ => .v (.int .i64 (if i < x then l.getD i 0 else 0))] }) (fun x => l.length - x) (fun _ => [])]
def A21 (l m : List Int) : List Ann :=
  [.mk Nat (fun x => x ≤ l.length ∧ l.length = m.length ∧ (l = m ↔ l.drop x = m.drop x)) (fun x => { fr := pad [ints l, ints m, .any, .any, .any, i64 x] 20, H := [] }) (fun x => l.length - x) (fun _ => [])]
end Cg
