/-
  Plain functions, and what is known of the codes' callees and loops: valid models. No condition.
-/
import Derived.Test.YtjhiaobcbbnhnaaGreatModelDefs
namespace Pl
open Go
def abs1 (n : Int) : Int := if n < -1000000000 ∨ n > 1000000000 then 1000000001 else if n < 0 then -n else n
def ratOk (x : Rt) : Bool := decide (-1000000000 ≤ x.1) && decide (x.1 ≤ 1000000000) && (decide (1 ≤ x.2) && decide (x.2 ≤ 1000000000)) && decide (Nat.gcd x.1.natAbs x.2.natAbs = 1)
def ratLess (a b : Rt) : Bool := ratOk a && ratOk b && decide (a.1 * b.2 < b.1 * a.2)
def cmpRat (a b : Rt) : Int := if ratLess a b = true then -1 else if ratLess b a = true then 1 else 0
def rowOk (x : Rw) : Bool := nameOk x.1 && decide (x.2.1.length ≤ 2) && ratOk x.2.2 && x.2.1.all ratOk
def argsLess : List Rt → List Rt → Bool
  | x :: xs, y :: ys => if x = y then argsLess xs ys else ratLess x y
  | _, _ => false
def rowLess (a b : Rw) : Bool := if a.1 = b.1 then (if a.2.1.length = b.2.1.length then argsLess a.2.1 b.2.1 else decide (a.2.1.length < b.2.1.length)) else sLess a.1 b.1
def cmpArgs : List Rt → List Rt → Int
  | [], [] => 0
  | [], _ :: _ => -1
  | _ :: _, [] => 1
  | x :: xs, y :: ys => if cmpRat x y = 0 then cmpArgs xs ys else cmpRat x y
def cmpS (a b : ByteArray) : Int := if sLess a b = true then -1 else if sLess b a = true then 1 else 0
def cmpI (a b : Int) : Int := if a < b then -1 else if a > b then 1 else 0
def orI : List Int → Int
  | [] => 0
  | x :: xs => if x = 0 then orI xs else x
def cmpRows (a b : Rw) : Int := orI [cmpS a.1 b.1, cmpI a.2.1.length b.2.1.length, cmpArgs a.2.1 b.2.1]
def beforeR (p : Option Rw) (x : Rw) : Bool := match p with
  | none => true
  | some q => rowLess q x
def mL : Option Rw → List Rw → Bool
  | _, [] => true
  | p, x :: xs => rowOk x && beforeR p x && mL (some x) xs
def prevR (m : Mdl) (k : Nat) : Option Rw := if k = 0 then none else some (m.getD (k - 1) dR)
def mRight (m : Mdl) : Bool := mL none m && decide (m.length ≤ 40)
def suit (a : Rt) (n : Int) : Bool := decide (n = 1) || decide (a.2 = 1)
def fit (a : Rt) (n : Int) : Bool := ratOk a && suit a n
def fitL : List Rt → List Int → Bool
  | a :: as, n :: ns => fit a n && fitL as ns
  | _, _ => true
def rowFits (s : Sig) (r : Rw) : Bool := (find s r.1).isSome && decide ((symOf s r.1).2.1.length = r.2.1.length) && fit r.2.2 (symOf s r.1).2.2 && fitL r.2.1 (symOf s r.1).2.1
def modelOk (s : Sig) (m : Mdl) : Bool := sigOk s && mRight m && m.all (rowFits s)
end Pl
namespace Cg
open Go Pl
def K_l1Abs : Nat × Contract := (Nm.spec_l1Abs, .sc Int (fun x => [i64 x]) (fun _ => True) fun x => i64 (abs1 x))
def K_l1Gcd : Nat × Contract := (Nm.spec_l1Gcd, .sc (Nat × Nat) (fun x => [i64 x.1, i64 x.2]) (fun x => x.1 ≤ 4611686018427387904 ∧ x.2 ≤ 4611686018427387904) fun x => i64 (Nat.gcd x.1 x.2))
def K_gcd : Nat × Contract := (Nm.impl_gcd, .sc (Int × Int) (fun x => [i64 x.1, i64 x.2]) (fun x => x.1.natAbs ≤ 4611686018427387904 ∧ x.2.natAbs ≤ 4611686018427387904) fun x => i64 (Nat.gcd x.1.natAbs x.2.natAbs))
def K_sRatOk : Nat × Contract := (Nm.spec_RatOk, .sc Rt (fun x => [ratA x]) (fun _ => True) fun x => bl (ratOk x))
def K_iRatOk : Nat × Contract := (Nm.impl_RatOk, .sc Rt (fun x => [ratA x]) (fun _ => True) fun x => bl (ratOk x))
def K_sRatLess : Nat × Contract := (Nm.spec_RatLess, .sc (Rt × Rt) (fun x => [ratA x.1, ratA x.2]) (fun _ => True) fun x => bl (ratLess x.1 x.2))
def K_iRatLess : Nat × Contract := (Nm.impl_RatLess, .sc (Rt × Rt) (fun x => [ratA x.1, ratA x.2]) (fun _ => True) fun x => bl (ratLess x.1 x.2))
def K_compareRats : Nat × Contract := (Nm.impl_compareRats, .sc (Rt × Rt) (fun x => [ratA x.1, ratA x.2]) (fun _ => True) fun x => i64 (cmpRat x.1 x.2))
def K_l7Row : Nat × Contract := (Nm.spec_l7Row, .sc Rw (fun x => [rowA x]) (fun x => x.1.size ≤ 1048576 ∧ x.2.1.length ≤ 1048576) fun x => bl (rowOk x))
def K_l7Less : Nat × Contract := (Nm.spec_l7Less, .sc (Rw × Rw) (fun x => [rowA x.1, rowA x.2]) (fun x => x.1.2.1.length ≤ 1048576) fun x => bl (rowLess x.1 x.2))
def K_l7Right : Nat × Contract := (Nm.spec_l7Right, .sc Mdl (fun x => [modelA x]) SmM fun x => bl (mRight x))
def K_l7Fit : Nat × Contract := (Nm.spec_l7Fit, .sc (Rt × Int) (fun x => [ratA x.1, i64 x.2]) (fun _ => True) fun x => bl (fit x.1 x.2))
def K_sModelOk : Nat × Contract := (Nm.spec_ModelOk, .sc (Sig × Mdl) (fun x => [sigA x.1, modelA x.2]) (fun x => SmG x.1 ∧ SmM x.2) fun x => bl (modelOk x.1 x.2))
def K_RowOk1 : Nat × Contract := (Nm.impl_Row_ok_1, .sc Rt (fun x => [ratA x]) (fun _ => True) fun x => bl (!ratOk x))
def K_IndexRat : Nat × Contract := (Nm.slices_IndexFunc_Simpl_Rat_impl_Rat, .sc (List Rt) (fun x => [rats x, .fn (.func Nm.impl_Row_ok_1) []]) (fun x => Sz x) fun x => i64 (idx (fun y => !ratOk y) x))
def K_ContainsRat : Nat × Contract := (Nm.slices_ContainsFunc_Simpl_Rat_impl_Rat, .sc (List Rt) (fun x => [rats x, .fn (.func Nm.impl_Row_ok_1) []]) (fun x => Sz x) fun x => bl (x.any fun y => !ratOk y))
def K_rowOk : Nat × Contract := (Nm.impl_Row_ok, .sc Rw (fun x => [rowA x]) (fun x => x.1.size ≤ 1048576 ∧ x.2.1.length ≤ 1048576) fun x => bl (rowOk x))
def K_isNaNS : Nat × Contract := (Nm.cmp_isNaN_string, .sc ByteArray (fun x => [st x]) (fun _ => True) fun _ => bl false)
def K_isNaNI : Nat × Contract := (Nm.cmp_isNaN_int, .sc Int (fun x => [i64 x]) (fun _ => True) fun _ => bl false)
def K_CompareS : Nat × Contract := (Nm.cmp_Compare_string, .sc (ByteArray × ByteArray) (fun x => [st x.1, st x.2]) (fun _ => True) fun x => i64 (cmpS x.1 x.2))
def K_CompareI : Nat × Contract := (Nm.cmp_Compare_int, .sc (Int × Int) (fun x => [i64 x.1, i64 x.2]) (fun _ => True) fun x => i64 (cmpI x.1 x.2))
def K_Or : Nat × Contract := (Nm.cmp_Or_int, .sc (List Int) (fun x => [ints x]) Sz fun x => i64 (orI x))
def K_CompareFunc : Nat × Contract := (Nm.slices_CompareFunc_Simpl_Rat_Simpl_Rat_impl_Rat_impl_Rat, .sc (List Rt × List Rt) (fun x => [rats x.1, rats x.2, .fn (.func Nm.impl_compareRats) []]) (fun x => Sz x.1 ∧ Sz x.2) fun x => i64 (cmpArgs x.1 x.2))
def K_compareRows : Nat × Contract := (Nm.impl_compareRows, .sc (Rw × Rw) (fun x => [rowA x.1, rowA x.2]) (fun x => Sz x.1.2.1 ∧ Sz x.2.2.1) fun x => i64 (cmpRows x.1 x.2))
def K_iModel : Nat × Contract := (Nm.impl_Model_ok, .sc Mdl (fun x => [modelA x]) SmM fun x => bl (mRight x))
def K_suits : Nat × Contract := (Nm.impl_suits, .sc (Rt × Int) (fun x => [ratA x.1, i64 x.2]) (fun _ => True) fun x => bl (suit x.1 x.2))
def K_iModelOk : Nat × Contract := (Nm.impl_ModelOk, .sc (Sig × Mdl) (fun x => [sigA x.1, modelA x.2]) (fun x => SmG x.1 ∧ SmM x.2) fun x => bl (modelOk x.1 x.2))
def A_l1Gcd (a b : Nat) : List Ann :=
  [.mk (Nat × Nat) (fun x => x.1 ≤ 4611686018427387904 ∧ x.2 ≤ 4611686018427387904 ∧ Nat.gcd x.1 x.2 = Nat.gcd a b) (fun x => { fr := pad [i64 x.1, i64 x.2] 12, H := [] }) (fun x => x.2) (fun _ => [])]
def A_gcd (a b : Int) : List Ann :=
  [.mk (Nat × Nat) (fun x => x.1 ≤ 4611686018427387904 ∧ x.2 ≤ 4611686018427387904 ∧ Nat.gcd x.1 x.2 = Nat.gcd a.natAbs b.natAbs) (fun x => { fr := pad [i64 x.1, i64 x.2] 20, H := [] }) (fun x => x.2) (fun _ => [])]
def A_l7Row (r : Rw) : List Ann :=
  [.mk Nat (fun x => x ≤ r.2.1.length ∧ r.2.1.all ratOk = (r.2.1.drop x).all ratOk) (fun x => { fr := pad [.any, .ptr 0 0, .any, i64 x] 32, H := [.var [st r.1, rats r.2.1, i64 r.2.2.1, i64 r.2.2.2]] }) (fun x => r.2.1.length - x) (fun _ => [])]
def A_l7Less (a b : Rw) : List Ann :=
  [.mk Nat (fun x => x ≤ a.2.1.length ∧ a.2.1.length = b.2.1.length ∧ rowLess a b = argsLess (a.2.1.drop x) (b.2.1.drop x)) (fun x => { fr := pad [.any, .any, .ptr 0 0, .ptr 1 0, .any, i64 x] 59, H := [.var [st a.1, rats a.2.1, i64 a.2.2.1, i64 a.2.2.2], .var [st b.1, rats b.2.1, i64 b.2.2.1, i64 b.2.2.2]] }) (fun x => a.2.1.length - x) (fun _ => [])]
def A_l7Right (m : Mdl) : List Ann :=
  [.mk Nat (fun x => x ≤ m.length ∧ mL none m = mL (prevR m x) (m.drop x)) (fun x => { fr := pad [.any, .ptr 0 0, .any, i64 x] 41, H := [.var [mrows m]] }) (fun x => m.length - x) (fun _ => [])]
def A_sModelOk (s : Sig) (m : Mdl) : List Ann :=
  [.mk Nat (fun x => x ≤ m.length ∧ modelOk s m = (m.drop x).all (rowFits s)) (fun x => { fr := pad [.any, .any, .ptr 0 0, .ptr 1 0, .any, i64 x] 85, H := [.var [syms s], .var [mrows m]] }) (fun x => m.length - x)
    (fun x => [.mk Nat (fun j => x < m.length ∧ j ≤ (m.getD x dR).2.1.length ∧ (symOf s (m.getD x dR).1).2.1.length = (m.getD x dR).2.1.length ∧ rowFits s (m.getD x dR) = fitL ((m.getD x dR).2.1.drop j) ((symOf s (m.getD x dR).1).2.1.drop j))
      (fun j => { fr := pad [.any, .any, .ptr 0 0, .ptr 1 0, .any, i64 x, .ptr 2 0, .any, i64 j] 85, H := [.var [syms s], .var [mrows m], .var [st (symOf s (m.getD x dR).1).1, ints (symOf s (m.getD x dR).1).2.1, i64 (symOf s (m.getD x dR).1).2.2]] }) (fun j => (m.getD x dR).2.1.length - j) (fun _ => [])])]
def A_IndexRat (l : List Rt) : List Ann :=
  [.mk Nat (fun x => x ≤ l.length ∧ idx (fun y => !ratOk y) l = if idx (fun y => !ratOk y) (l.drop x) < 0 then -1 else idx (fun y => !ratOk y) (l.drop x) + x)
    (fun x => { fr := pad [rats l, .fn (.func Nm.impl_Row_ok_1) [], .any, .any, .any, .any, .any, i64 l.length, i64 x] 19, H := [] }) (fun x => l.length - x) (fun _ => [])]
def A_Or (l : List Int) : List Ann :=
  [.mk Nat (fun x => x ≤ l.length ∧ orI l = orI (l.drop x)) (fun x => { fr := pad [.any, .any, .any, i64 0, .any, .any, ints l, i64 l.length, i64 x] 18, H := [] }) (fun x => l.length - x) (fun _ => [])]
def A_CompareFunc (l m : List Rt) : List Ann :=
  [.mk Nat (fun x => x ≤ l.length ∧ x ≤ m.length ∧ cmpArgs l m = cmpArgs (l.drop x) (m.drop x))
    (fun x => { fr := pad [rats l, rats m, .fn (.func Nm.impl_compareRats) [], .any, .any, .any, .any, .any, .any, .any, .any, rats l, i64 l.length, i64 x] 39, H := [] }) (fun x => l.length - x) (fun _ => [])]
def A_iModel (m : Mdl) : List Ann :=
  [.mk Nat (fun x => x ≤ m.length ∧ mL none m = mL (prevR m x) (m.drop x) ∧ (x ≠ 0 → rowOk (m.getD (x - 1) dR) = true)) (fun x => { fr := pad [.any, .ptr 0 0, .any, .any, .any, .any, .any, .any, .any, .any, mrows m, i64 m.length, i64 x] 36, H := [.var [mrows m]] }) (fun x => m.length - x) (fun _ => [])]
def A_iModelOk (s : Sig) (m : Mdl) : List Ann :=
  [.mk Nat (fun x => x ≤ m.length ∧ modelOk s m = (m.drop x).all (rowFits s) ∧ mL none m = true) (fun x => { fr := pad [.any, .any, .ptr 0 0, .ptr 1 0, .any, .any, .any, .any, .any, .any, .any, .any, .any, .any, .any, .any, .any, .any, .any, .any, mrows m, i64 m.length, i64 x] 70, H := [.var [syms s], .var [mrows m]] }) (fun x => m.length - x)
    (fun x => [.mk Nat (fun j => x < m.length ∧ j ≤ (m.getD x dR).2.1.length ∧ (symOf s (m.getD x dR).1).2.1.length = (m.getD x dR).2.1.length ∧ rowFits s (m.getD x dR) = fitL ((m.getD x dR).2.1.drop j) ((symOf s (m.getD x dR).1).2.1.drop j))
      (fun j => { fr := pad ([.any, .any, .ptr 0 0, .ptr 1 0, .any, .any, .any, .ptr 2 0, .any, .any, .any, .any, .any, .any, .any, .any, .any, .any, .any, .any, mrows m, i64 m.length, i64 x] ++ List.replicate 30 .any ++ [rats (m.getD x dR).2.1, i64 (m.getD x dR).2.1.length, i64 j]) 70, H := [.var [syms s], .var [mrows m], .var [st (symOf s (m.getD x dR).1).1, ints (symOf s (m.getD x dR).1).2.1, i64 (symOf s (m.getD x dR).1).2.2]] }) (fun j => (m.getD x dR).2.1.length - j) (fun _ => [])])]
end Cg
