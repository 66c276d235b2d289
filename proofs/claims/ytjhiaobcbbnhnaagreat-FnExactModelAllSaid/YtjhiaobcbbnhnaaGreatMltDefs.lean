/-
  Plain functions, and what is known of the codes' callees and loops: the truth of literals in models. No condition.
-/
import Derived.Test.YtjhiaobcbbnhnaaGreatLitDefs
import Derived.Test.YtjhiaobcbbnhnaaGreatAtmDefs
namespace Pl
open Go
def least (n d : Int) : Option Rt := if ratOk (n.tdiv (Nat.gcd n.natAbs d.natAbs), d.tdiv (Nat.gcd n.natAbs d.natAbs)) = true then some (n.tdiv (Nat.gcd n.natAbs d.natAbs), d.tdiv (Nat.gcd n.natAbs d.natAbs)) else none
def ratAdd (a b : Rt) : Option Rt := if (ratOk a && ratOk b) = true then least (a.1 * b.2 + b.1 * a.2) (a.2 * b.2) else none
def ratMul (a b : Rt) : Option Rt := if (ratOk a && ratOk b) = true then least (a.1 * b.1) (a.2 * b.2) else none
def ratV (x : Option Rt) : Rt := x.getD (0, 0)
def plusV (s : Rt) (c : Int) (v : Rt) : Option Rt := (ratMul (c, 1) v).bind fun x => ratAdd s x
def under (s : Rt) (b : Int) (strict : Bool) : Bool := if strict = true then ratLess s (b, 1) else !ratLess (b, 1) s
def sumS (m : Mdl) : Rt → List Tm → List Int → Rt × Bool
  | s, t :: ts, n :: ns => match ratMul (n, 1) (valT m t) with
    | none => (s, false)
    | some x => match ratAdd s x with
      | none => ((0, 0), false)
      | some y => sumS m y ts ns
  | s, _, _ => (s, true)
def atomV (m : Mdl) (x : Atm) : Bool × Bool := if x.1 = 1 then (decide (valT m (.mk x.2.1.1 x.2.1.2) = valT m (.mk x.2.2.1.1 x.2.2.1.2)), true) else
  if (sumS m (0, 1) x.2.2.2.1 x.2.2.2.2.1).2 = true then (under (sumS m (0, 1) x.2.2.2.1 x.2.2.2.2.1).1 x.2.2.2.2.2.1 x.2.2.2.2.2.2, true) else (false, false)
def modelLit (s : Sig) (m : Mdl) (l : Ltr) : Bool × Bool := if (!modelOk s m || !atomOk s l.1) = true then (false, false) else if (atomV m l.1).2 = true then ((atomV m l.1).1 != l.2, true) else (false, false)
def litIs (s : Sig) (m : Mdl) (l : Ltr) : Bool := (modelLit s m l).1 && (modelLit s m l).2
def modelAll (s : Sig) (m : Mdl) (l : List Ltr) : Bool := modelOk s m && l.all (litIs s m)
end Pl
namespace Cg
open Go Pl
def K_l1Least : Nat × Contract := (Nm.spec_l1Least, .sc (Int × Int) (fun x => [i64 x.1, i64 x.2]) (fun x => x.1.natAbs ≤ 2000000000000000000 ∧ 1 ≤ x.2 ∧ x.2 ≤ 1000000000000000000) fun x => .tup [ratA (ratV (least x.1 x.2)), bl (least x.1 x.2).isSome])
def K_ratOf : Nat × Contract := (Nm.impl_ratOf, .sc (Int × Int) (fun x => [i64 x.1, i64 x.2]) (fun x => x.1.natAbs ≤ 2000000000000000000 ∧ 1 ≤ x.2 ∧ x.2 ≤ 1000000000000000000) fun x => .tup [ratA (ratV (least x.1 x.2)), bl (least x.1 x.2).isSome])
def K_sRatAdd : Nat × Contract := (Nm.spec_RatAdd, .sc (Rt × Rt) (fun x => [ratA x.1, ratA x.2]) (fun _ => True) fun x => .tup [ratA (ratV (ratAdd x.1 x.2)), bl (ratAdd x.1 x.2).isSome])
def K_iRatAdd : Nat × Contract := (Nm.impl_RatAdd, .sc (Rt × Rt) (fun x => [ratA x.1, ratA x.2]) (fun _ => True) fun x => .tup [ratA (ratV (ratAdd x.1 x.2)), bl (ratAdd x.1 x.2).isSome])
def K_sRatMul : Nat × Contract := (Nm.spec_RatMul, .sc (Rt × Rt) (fun x => [ratA x.1, ratA x.2]) (fun _ => True) fun x => .tup [ratA (ratV (ratMul x.1 x.2)), bl (ratMul x.1 x.2).isSome])
def K_iRatMul : Nat × Contract := (Nm.impl_RatMul, .sc (Rt × Rt) (fun x => [ratA x.1, ratA x.2]) (fun _ => True) fun x => .tup [ratA (ratV (ratMul x.1 x.2)), bl (ratMul x.1 x.2).isSome])
def K_plus : Nat × Contract := (Nm.impl_plus, .sc (Rt × Int × Rt) (fun x => [ratA x.1, i64 x.2.1, ratA x.2.2]) (fun _ => True) fun x => .tup [ratA (ratV (plusV x.1 x.2.1 x.2.2)), bl (plusV x.1 x.2.1 x.2.2).isSome])
def K_below : Nat × Contract := (Nm.impl_below, .sc (Rt × Int × Bool) (fun x => [ratA x.1, i64 x.2.1, bl x.2.2]) (fun _ => True) fun x => bl (under x.1 x.2.1 x.2.2))
def K_l7Sum : Nat × Contract := (Nm.spec_l7Sum, .sc (Mdl × Atm) (fun x => [modelA x.1, atomA x.2]) (fun x => SmM x.1 ∧ SmA x.2 ∧ x.2.2.2.2.1.length = x.2.2.2.2.2.1.length) fun x => .tup [ratA (sumS x.1 (0, 1) x.2.2.2.2.1 x.2.2.2.2.2.1).1, bl (sumS x.1 (0, 1) x.2.2.2.2.1 x.2.2.2.2.2.1).2])
def K_atomV : Nat × Contract := (Nm.impl_Model_atom, .sc (Mdl × Atm) (fun x => [modelA x.1, atomA x.2]) (fun x => mL none x.1 = true ∧ SmM x.1 ∧ SmA x.2 ∧ (¬ x.2.1 = 1 → x.2.2.2.2.1.length = x.2.2.2.2.2.1.length)) fun x => .tup [bl (atomV x.1 x.2).1, bl (atomV x.1 x.2).2])
def K_sModelLit : Nat × Contract := (Nm.spec_ModelLit, .sc (Sig × Mdl × Ltr) (fun x => [sigA x.1, modelA x.2.1, litA x.2.2]) (fun x => SmG x.1 ∧ SmM x.2.1 ∧ SmA x.2.2.1) fun x => .tup [bl (modelLit x.1 x.2.1 x.2.2).1, bl (modelLit x.1 x.2.1 x.2.2).2])
def K_iModelLit : Nat × Contract := (Nm.impl_ModelLit, .sc (Sig × Mdl × Ltr) (fun x => [sigA x.1, modelA x.2.1, litA x.2.2]) (fun x => SmG x.1 ∧ SmM x.2.1 ∧ SmA x.2.2.1) fun x => .tup [bl (modelLit x.1 x.2.1 x.2.2).1, bl (modelLit x.1 x.2.1 x.2.2).2])
def K_sModelAll : Nat × Contract := (Nm.spec_ModelAll, .sc (Sig × Mdl × List Ltr) (fun x => [sigA x.1, modelA x.2.1, litrs x.2.2]) (fun x => SmG x.1 ∧ SmM x.2.1 ∧ SmLs x.2.2) fun x => bl (modelAll x.1 x.2.1 x.2.2))
def K_iModelAll : Nat × Contract := (Nm.impl_ModelAll, .sc (Sig × Mdl × List Ltr) (fun x => [sigA x.1, modelA x.2.1, litrs x.2.2]) (fun x => SmG x.1 ∧ SmM x.2.1 ∧ SmLs x.2.2) fun x => bl (modelAll x.1 x.2.1 x.2.2))
def K_xModelLit : Nat × Contract := (Nm.laws_FnExactModelLit, .sc (Sig × Mdl × Ltr) (fun x => [sigA x.1, modelA x.2.1, litA x.2.2]) (fun x => MlG x.1 ∧ MlM x.2.1 ∧ MlA x.2.2.1) fun _ => bl true)
def K_xModelAll : Nat × Contract := (Nm.laws_FnExactModelAll, .sc (Sig × Mdl × List Ltr) (fun x => [sigA x.1, modelA x.2.1, litrs x.2.2]) (fun x => MlG x.1 ∧ MlM x.2.1 ∧ MlLs x.2.2) fun _ => bl true)

def A_l7Sum (m : Mdl) (a : Atm) : List Ann :=
  [.mk (Nat × Rt) (fun x => x.1 ≤ a.2.2.2.1.length ∧ ratOk x.2 = true ∧ sumS m (0, 1) a.2.2.2.1 a.2.2.2.2.1 = sumS m x.2 (a.2.2.2.1.drop x.1) (a.2.2.2.2.1.drop x.1)) (fun x => { fr := pad [.any, .any, .ptr 0 0, .ptr 1 0, .ptr 2 0, .any, .ptr 3 0, i64 x.1] 48, H := [.var [mrows m], .var (atomC a), .var [i64 0, i64 0], .var [i64 x.2.1, i64 x.2.2]] }) (fun x => a.2.2.2.1.length - x.1) (fun _ => [])]
def A_atomV (m : Mdl) (a : Atm) : List Ann :=
  [.mk (Nat × Rt) (fun x => ¬ a.1 = 1 ∧ x.1 ≤ a.2.2.2.1.length ∧ ratOk x.2 = true ∧ sumS m (0, 1) a.2.2.2.1 a.2.2.2.2.1 = sumS m x.2 (a.2.2.2.1.drop x.1) (a.2.2.2.2.1.drop x.1)) (fun x => { fr := pad ([.any, .any, .ptr 0 0, .ptr 1 0, .any, .any, .ptr 2 0] ++ List.replicate 18 .any ++ [terms a.2.2.2.1, i64 a.2.2.2.1.length, i64 x.1]) 55, H := [.var [mrows m], .var (atomC a), .var [i64 x.2.1, i64 x.2.2]] }) (fun x => a.2.2.2.1.length - x.1) (fun _ => [])]
def A_sModelAll (s : Sig) (m : Mdl) (l : List Ltr) : List Ann :=
  [.mk Nat (fun x => x ≤ l.length ∧ l.all (litIs s m) = (l.drop x).all (litIs s m)) (fun x => { fr := pad [.any, .any, litrs l, .ptr 0 0, .ptr 1 0, .any, .any, i64 x] 35, H := [.var [syms s], .var [mrows m]] }) (fun x => l.length - x) (fun _ => [])]
def A_iModelAll (s : Sig) (m : Mdl) (l : List Ltr) : List Ann :=
  [.mk Nat (fun x => modelOk s m = true ∧ x ≤ l.length ∧ l.all (litIs s m) = (l.drop x).all (litIs s m)) (fun x => { fr := pad ([.any, .any, .any, .ptr 0 0, .ptr 1 0] ++ List.replicate 10 .any ++ [litrs l, i64 l.length, i64 x]) 35, H := [.var [syms s], .var [mrows m]] }) (fun x => l.length - x) (fun _ => [])]
end Cg
