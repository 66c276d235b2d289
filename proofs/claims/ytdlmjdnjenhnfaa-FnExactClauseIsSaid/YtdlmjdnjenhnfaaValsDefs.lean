/-
  Plain functions, and what is known of the codes' callees and loops: clauses under values. No condition.
-/
import Derived.Test.YtdlmjdnjenhnfaaRowsDefs
namespace Pl
def lIs (n : Int) (vals : List Bool) : Bool :=
  if n = 0 ∨ n > vals.length ∨ n < -vals.length then false else if n < 0 then !(vals.getD (-1 - n).toNat false) else vals.getD (n - 1).toNat false
def clauseIs (l : List Int) (vals : List Bool) : Bool := l.any fun x => lIs x vals
/-- Where the first is for which something holds. -/
def idx {α : Type} (p : α → Bool) : List α → Int
  | [] => -1
  | x :: l => if p x then 0 else if idx p l < 0 then -1 else idx p l + 1
end Pl
namespace Cg
open Go

def K_toBoolS : Nat × Contract := (Nm.laws_toBoolS, .im (c1 bools? (fun l => [l.length ≤ 4294967296]) bools))
def K_eqBoolS : Nat × Contract := (Nm.laws_eqBoolS, .sc (c2 bools? bools? (fun l _ => [l.length ≤ 4294967296]) fun l m => bl (decide (l = m))))
def K_l10Is : Nat × Contract := (Nm.spec_l10Is, .sc (c2 i64? bools? (fun _ l => [l.length ≤ 4294967296]) fun x l => bl (Pl.lIs x l)))
def K_isTrue : Nat × Contract := (Nm.impl_isTrue, .sc (c2 i64? bools? (fun _ l => [l.length ≤ 4294967296]) fun x l => bl (Pl.lIs x l)))
def K_sClauseIs : Nat × Contract := (Nm.spec_ClauseIs, .sc (c2 ints? bools? (fun l v => [l.length ≤ 4294967296 ∧ v.length ≤ 4294967296]) fun l v => bl (Pl.clauseIs l v)))
def K_ClauseIs1 : Nat × Contract := (Nm.impl_ClauseIs_1, .sc (c2 i64? (ref1? (Ls.lv Ls.bv) bools) (fun _ l => [l.length ≤ 4294967296]) fun x l => bl (Pl.lIs x l)))
def K_IndexClauseIs : Nat × Contract := (Nm.slices_IndexFunc_Sint_int, .sc (c2 ints? (fn1? Nm.impl_ClauseIs_1 (ref1? (Ls.lv Ls.bv) bools)) (fun l v => [l.length ≤ 4294967296 ∧ v.length ≤ 4294967296]) fun l v => i64 (Pl.idx (fun x => Pl.lIs x v) l)))
def K_ContainsClauseIs : Nat × Contract := (Nm.slices_ContainsFunc_Sint_int, .sc (c2 ints? (fn1? Nm.impl_ClauseIs_1 (ref1? (Ls.lv Ls.bv) bools)) (fun l v => [l.length ≤ 4294967296 ∧ v.length ≤ 4294967296]) fun l v => bl (Pl.clauseIs l v)))
def K_iClauseIs : Nat × Contract := (Nm.impl_ClauseIs, .sc (c2 ints? bools? (fun l v => [l.length ≤ 4294967296 ∧ v.length ≤ 4294967296]) fun l v => bl (Pl.clauseIs l v)))

def A_toBoolS (l : List Bool) : List Ann :=
  [.mk Nat (fun x => x ≤ l.length) (fun x => { fr := pad [bools l, .any, .any, .osl 0 0 l.length, i64 x] 17, H := [.arr l.length 1 fun i _ => bl (if i < x then l.getD i false else false)] }) (fun x => l.length - x) (fun _ => [])]
def A_eqBoolS (l m : List Bool) : List Ann :=
  [.mk Nat (fun x => x ≤ l.length ∧ l.length = m.length ∧ (l = m ↔ l.drop x = m.drop x)) (fun x => { fr := pad [bools l, bools m, .any, .any, .any, i64 x] 20, H := [] }) (fun x => l.length - x) (fun _ => [])]
def A_sClauseIs (l : List Int) (v : List Bool) : List Ann :=
  [.mk Nat (fun x => x ≤ l.length ∧ Pl.clauseIs l v = Pl.clauseIs (l.drop x) v) (fun x => { fr := pad [ints l, bools v, .any, .any, .any, i64 x] 19, H := [] }) (fun x => l.length - x) (fun _ => [])]
def A_IndexClauseIs (l : List Int) (v : List Bool) : List Ann :=
  [.mk Nat (fun x => x ≤ l.length ∧ Pl.idx (fun x => Pl.lIs x v) l = if Pl.idx (fun x => Pl.lIs x v) (l.drop x) < 0 then -1 else Pl.idx (fun x => Pl.lIs x v) (l.drop x) + x)
    (fun x => { fr := pad [ints l, fn1 Nm.impl_ClauseIs_1 (ref1 bools) v, .any, .any, .any, .any, .any, i64 l.length, i64 x] 10, H := [] }) (fun x => l.length - x) (fun _ => [])]
end Cg
