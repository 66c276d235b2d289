/-
  Plain functions, and what is known of the codes' callees and loops: rows of rows. No condition.
-/
import Derived.Test.YtdlmjdnjenhnfaaClauseDefs
namespace Pl
def sz1 (n : Nat) (k : Int) : Int := if k - n < 0 then -1 else k - n
def szL : List (List Int) → Int → Int
  | [], k => k
  | x :: xs, k => if k - x.length < 0 then -1 else szL xs (k - x.length)
def szSS (l : List (List Int)) (k : Int) : Int := if k - l.length < 0 then -1 else szL l (k - l.length)
def logEnds (l : List (List Int)) : Bool := decide (l.length > 0) && decide ((l.getD (l.length - 1) []).length = 0)
end Pl
namespace Cg
open Go

def K_szIntS : Nat × Contract := (Nm.laws_szIntS, .sc (c2 ints? i64? (fun l k => [l.length ≤ 9223372036854775807 ∧ 0 ≤ k ∧ k ≤ 1048576]) fun l k => i64 (Pl.sz1 l.length k)))
def K_szIntSS : Nat × Contract := (Nm.laws_szIntSS, .sc (c2 intss? i64? (fun l k => [l.length ≤ 9223372036854775807 ∧ (∀ x ∈ l, x.length ≤ 9223372036854775807) ∧ 0 ≤ k ∧ k ≤ 1048576]) fun l k => i64 (Pl.szSS l k)))
def K_toIntSS : Nat × Contract := (Nm.laws_toIntSS, .im (c1 intss? (fun l => [l.length ≤ 4294967296 ∧ ∀ x ∈ l, x.length ≤ 4294967296]) intss))
def K_eqIntSS : Nat × Contract := (Nm.laws_eqIntSS, .sc (c2 intss? intss? (fun l _ => [l.length ≤ 4294967296 ∧ ∀ x ∈ l, x.length ≤ 4294967296]) fun l m => bl (decide (l = m))))
def K_sLogEnds : Nat × Contract := (Nm.spec_LogEnds, .sc (c1 intss? (fun l => [l.length ≤ 4294967296]) fun l => bl (Pl.logEnds l)))
def K_iLogEnds : Nat × Contract := (Nm.impl_LogEnds, .sc (c1 intss? (fun l => [l.length ≤ 4294967296]) fun l => bl (Pl.logEnds l)))

def A_szIntSS (l : List (List Int)) (k : Int) : List Ann :=
  [.mk (Nat × Int) (fun x => x.1 ≤ l.length ∧ 0 ≤ x.2 ∧ x.2 ≤ 1048576 ∧ Pl.szSS l k = Pl.szL (l.drop x.1) x.2) (fun x => { fr := pad [intss l, i64 x.2, .any, .any, .any, i64 x.1] 21, H := [] }) (fun x => l.length - x.1) (fun _ => [])]
def A_toIntSS (l : List (List Int)) : List Ann :=
  [.mk Nat (fun x => x ≤ l.length) (fun x => { fr := pad [intss l, .any, .any, .osl 0 0 l.length, i64 x] 18, H := [.arr l.length 1 fun i _ => if i < x then ints (l.getD i []) else nilA] }) (fun x => l.length - x) (fun _ => [])]
def A_eqIntSS (l m : List (List Int)) : List Ann :=
  [.mk Nat (fun x => x ≤ l.length ∧ l.length = m.length ∧ (l = m ↔ l.drop x = m.drop x)) (fun x => { fr := pad [intss l, intss m, .any, .any, .any, i64 x] 21, H := [] }) (fun x => l.length - x) (fun _ => [])]
end Cg
