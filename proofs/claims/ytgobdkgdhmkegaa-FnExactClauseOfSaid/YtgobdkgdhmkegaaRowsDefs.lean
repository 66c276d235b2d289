/-
  Plain functions, and what is known of the codes' callees and loops: rows of rows, values of marks. No condition.
-/
import Derived.Test.YtgobdkgdhmkegaaClauseDefs
namespace Pl
def sz1 (n : Nat) (k : Int) : Int := if k - n < 0 then -1 else k - n
def szL : List (List Int) → Int → Int
  | [], k => k
  | x :: xs, k => if k - x.length < 0 then -1 else szL xs (k - x.length)
def szSS (l : List (List Int)) (k : Int) : Int := if k - l.length < 0 then -1 else szL l (k - l.length)
def logEnds (l : List (List Int)) : Bool := decide (l.length > 0) && decide ((l.getD (l.length - 1) []).length = 0)
def lIs (n : Int) (vals : List Bool) : Bool :=
  if n = 0 ∨ n > vals.length ∨ n < -vals.length then false else if n < 0 then !(vals.getD (-1 - n).toNat false) else vals.getD (n - 1).toNat false
def clauseIs (l : List Int) (vals : List Bool) : Bool := l.any fun x => lIs x vals
/-- Where the first is for which something holds. -/
def idx {α : Type} (p : α → Bool) : List α → Int
  | [] => -1
  | x :: l => if p x then 0 else if idx p l < 0 then -1 else idx p l + 1
end Pl
namespace Cg
open Go
abbrev SzL {α : Type} (l : List (List α)) : Prop := Sz l ∧ ∀ x ∈ l, Sz x
abbrev Ml {α : Type} (l : List α) : Prop := l.length ≤ 9223372036854775807
abbrev MlL {α : Type} (l : List (List α)) : Prop := Ml l ∧ ∀ x ∈ l, Ml x
abbrev Fu (k : Int) : Prop := 0 ≤ k ∧ k ≤ 1048576

def K_szIntS : Nat × Contract := (Nm.laws_szIntS, .sc (List Int × Int) (fun x => [ints x.1, i64 x.2]) (fun x => Ml x.1 ∧ Fu x.2) fun x => i64 (Pl.sz1 x.1.length x.2))
def K_szIntSS : Nat × Contract := (Nm.laws_szIntSS, .sc (List (List Int) × Int) (fun x => [intss x.1, i64 x.2]) (fun x => MlL x.1 ∧ Fu x.2) fun x => i64 (Pl.szSS x.1 x.2))
def K_toIntSS : Nat × Contract := (Nm.laws_toIntSS, .im (List (List Int)) (fun l => [intss l]) SzL intss)
def K_eqIntSS : Nat × Contract := (Nm.laws_eqIntSS, .sc (List (List Int) × List (List Int)) (fun x => [intss x.1, intss x.2]) (fun x => SzL x.1) fun x => bl (decide (x.1 = x.2)))
def K_sLogEnds : Nat × Contract := (Nm.spec_LogEnds, .sc (List (List Int)) (fun l => [intss l]) Sz fun l => bl (Pl.logEnds l))
def K_iLogEnds : Nat × Contract := (Nm.impl_LogEnds, .sc (List (List Int)) (fun l => [intss l]) Sz fun l => bl (Pl.logEnds l))
def K_eqBoolS : Nat × Contract := (Nm.laws_eqBoolS, .sc (List Bool × List Bool) (fun x => [bools x.1, bools x.2]) (fun x => Sz x.1) fun x => bl (decide (x.1 = x.2)))
def K_l10Is : Nat × Contract := (Nm.spec_l10Is, .sc (Int × List Bool) (fun x => [i64 x.1, bools x.2]) (fun x => Sz x.2) fun x => bl (Pl.lIs x.1 x.2))
def K_isTrue : Nat × Contract := (Nm.impl_isTrue, .sc (Int × List Bool) (fun x => [i64 x.1, bools x.2]) (fun x => Sz x.2) fun x => bl (Pl.lIs x.1 x.2))
def K_sClauseIs : Nat × Contract := (Nm.spec_ClauseIs, .sc (List Int × List Bool) (fun x => [ints x.1, bools x.2]) (fun x => Sz x.1 ∧ Sz x.2) fun x => bl (Pl.clauseIs x.1 x.2))
def K_ClauseIs1 : Nat × Contract := (Nm.impl_ClauseIs_1, .sc (Int × List Bool) (fun x => [i64 x.1, refs [bools x.2]]) (fun x => Sz x.2) fun x => bl (Pl.lIs x.1 x.2))
def K_IndexClauseIs : Nat × Contract := (Nm.slices_IndexFunc_Sint_int, .sc (List Int × List Bool) (fun x => [ints x.1, .fn (.func Nm.impl_ClauseIs_1) [refs [bools x.2]]]) (fun x => Sz x.1 ∧ Sz x.2) fun x => i64 (Pl.idx (fun y => Pl.lIs y x.2) x.1))
def K_ContainsClauseIs : Nat × Contract := (Nm.slices_ContainsFunc_Sint_int, .sc (List Int × List Bool) (fun x => [ints x.1, .fn (.func Nm.impl_ClauseIs_1) [refs [bools x.2]]]) (fun x => Sz x.1 ∧ Sz x.2) fun x => bl (Pl.clauseIs x.1 x.2))
def K_iClauseIs : Nat × Contract := (Nm.impl_ClauseIs, .sc (List Int × List Bool) (fun x => [ints x.1, bools x.2]) (fun x => Sz x.1 ∧ Sz x.2) fun x => bl (Pl.clauseIs x.1 x.2))

def A_szIntSS (l : List (List Int)) (k : Int) : List Ann :=
  [.mk (Nat × Int) (fun x => x.1 ≤ l.length ∧ Fu x.2 ∧ Pl.szSS l k = Pl.szL (l.drop x.1) x.2) (fun x => { fr := pad [intss l, i64 x.2, .any, .any, .any, i64 x.1] 27, H := [] }) (fun x => l.length - x.1) (fun _ => [])]
def A_toIntSS (l : List (List Int)) : List Ann :=
  [.mk (Nat × List (List Int)) (fun x => x.1 ≤ l.length ∧ x.2.length = l.length ∧ x.2.take x.1 = l.take x.1) (fun x => { fr := pad [intss l, .any, .any, .osl 0 0 x.2.length, i64 x.1] 23, H := [arII x.2] }) (fun x => l.length - x.1) (fun _ => [])]
def A_eqIntSS (l m : List (List Int)) : List Ann :=
  [.mk Nat (fun x => x ≤ l.length ∧ l.length = m.length ∧ (l = m ↔ l.drop x = m.drop x)) (fun x => { fr := pad [intss l, intss m, .any, .any, .any, i64 x] 27, H := [] }) (fun x => l.length - x) (fun _ => [])]
def A_toBoolS (l : List Bool) : List Ann :=
  [.mk (Nat × List Bool) (fun x => x.1 ≤ l.length ∧ x.2.length = l.length ∧ x.2.take x.1 = l.take x.1) (fun x => { fr := pad [bools l, .any, .any, .osl 0 0 x.2.length, i64 x.1] 22, H := [arB x.2] }) (fun x => l.length - x.1) (fun _ => [])]
def A_eqBoolS (l m : List Bool) : List Ann :=
  [.mk Nat (fun x => x ≤ l.length ∧ l.length = m.length ∧ (l = m ↔ l.drop x = m.drop x)) (fun x => { fr := pad [bools l, bools m, .any, .any, .any, i64 x] 26, H := [] }) (fun x => l.length - x) (fun _ => [])]
def A_sClauseIs (l : List Int) (v : List Bool) : List Ann :=
  [.mk Nat (fun x => x ≤ l.length ∧ Pl.clauseIs l v = Pl.clauseIs (l.drop x) v) (fun x => { fr := pad [ints l, bools v, .any, .any, .any, i64 x] 25, H := [] }) (fun x => l.length - x) (fun _ => [])]
def A_IndexClauseIs (l : List Int) (v : List Bool) : List Ann :=
  [.mk Nat (fun x => x ≤ l.length ∧ Pl.idx (fun x => Pl.lIs x v) l = if Pl.idx (fun x => Pl.lIs x v) (l.drop x) < 0 then -1 else Pl.idx (fun x => Pl.lIs x v) (l.drop x) + x)
    (fun x => { fr := pad [ints l, .fn (.func Nm.impl_ClauseIs_1) [refs [bools v]], .any, .any, .any, .any, .any, i64 l.length, i64 x] 19, H := [] }) (fun x => l.length - x) (fun _ => [])]
end Cg
