/-
  Plain functions, and what is known of the codes' callees and loops: valid atoms. No condition.
-/
import Derived.Test.YtjhiaobcbbnhnaaGreatMtmDefs
import Derived.Test.YtjhiaobcbbnhnaaGreatJoinDefs
namespace Pl
open Go
def mkB (l : List UInt8) : ByteArray := ⟨⟨l⟩⟩
mutual
def textB : Tm → List UInt8
  | .mk v ks => if ks.isEmpty then bl' v else bl' v ++ [40] ++ interL [44] (textBs ks) ++ [41]
def textBs : List Tm → List (List UInt8)
  | [] => []
  | t :: ts => textB t :: textBs ts
end
def textT (t : Tm) : ByteArray := mkB (textB t)
def textL (l : List Tm) : List ByteArray := l.map textT
def spellB (v : List UInt8) (ts : List (List UInt8)) : List UInt8 := if ts.isEmpty then v else v ++ [40] ++ interL [44] ts
def spell (v : ByteArray) (ts : List Tm) : ByteArray := mkB (spellB (bl' v) (textBs ts))
def noneT (x : TP) : Bool := decide (x.1 = ByteArray.empty) && decide (x.2 = [])
def above (p : Option Tm) (t : Tm) : Bool := match p with
  | none => true
  | some q => sLess (textT q) (textT t)
def timeOk (n : Int) : Bool := decide (n ≠ 0) && decide (-50 ≤ n) && decide (n ≤ 50)
def numOk : Option Tm → List Tm → List Int → Bool
  | p, t :: ts, n :: ns => (right t && timeOk n && above p t) && numOk (some t) ts ns
  | _, _, _ => true
def prevN (l : List Tm) (k : Nat) : Option Tm := if k = 0 then none else some (l.getD (k - 1) dT)
def sumHead (x : Atm) : Bool := noneT x.2.1 && noneT x.2.2.1 && decide (x.2.2.2.1.length = x.2.2.2.2.1.length) && decide (1 ≤ x.2.2.2.1.length) && decide (x.2.2.2.1.length ≤ 4) && decide (-1000 ≤ x.2.2.2.2.2.1) && decide (x.2.2.2.2.2.1 ≤ 1000)
def sumRight (x : Atm) : Bool := sumHead x && numOk none x.2.2.2.1 x.2.2.2.2.1
def eqRight (x : Atm) : Bool := right (.mk x.2.1.1 x.2.1.2) && right (.mk x.2.2.1.1 x.2.2.1.2) && decide (x.2.2.2.1 = []) && decide (x.2.2.2.2.1 = []) && decide (x.2.2.2.2.2.1 = 0) && !x.2.2.2.2.2.2
def atomRight (x : Atm) : Bool := if x.1 = 2 then sumRight x else decide (x.1 = 1) && eqRight x
def isNum (s : Sig) (t : Tm) : Bool := (termSort s t).2 && decide ((termSort s t).1 = 1)
def eqSorted (s : Sig) (a b : Tm) : Bool := (termSort s a).2 && (termSort s b).2 && decide ((termSort s a).1 = (termSort s b).1)
def atomOk (s : Sig) (x : Atm) : Bool := sigOk s && atomRight x && if x.1 = 1 then eqSorted s (.mk x.2.1.1 x.2.1.2) (.mk x.2.2.1.1 x.2.2.1.2) else x.2.2.2.1.all (isNum s)
end Pl
namespace Cg
open Go Pl
def K_l4Text (n : Nat) : Nat × Contract := (Nm.spec_l4Text, .sc TP (fun x => [termA x]) (fun x => SmT (.mk x.1 x.2) ∧ manyL x.2 < n) fun x => st (textT (.mk x.1 x.2)))
def K_lText : Nat × Contract := (Nm.spec_l4Text, .sc TP (fun x => [termA x]) (fun x => SmT (.mk x.1 x.2)) fun x => st (textT (.mk x.1 x.2)))
def K_termText (n : Nat) : Nat × Contract := (Nm.impl_termText, .sc TP (fun x => [termA x]) (fun x => SmT (.mk x.1 x.2) ∧ manyL x.2 < n) fun x => st (textT (.mk x.1 x.2)))
def K_tText : Nat × Contract := (Nm.impl_termText, .sc TP (fun x => [termA x]) (fun x => SmT (.mk x.1 x.2)) fun x => st (textT (.mk x.1 x.2)))
def K_l6None : Nat × Contract := (Nm.spec_l6None, .sc TP (fun x => [termA x]) (fun _ => True) fun x => bl (noneT x))
def K_isNone : Nat × Contract := (Nm.impl_isNone, .sc TP (fun x => [termA x]) (fun _ => True) fun x => bl (noneT x))
def K_l6Sum : Nat × Contract := (Nm.spec_l6Sum, .sc Atm (fun x => [atomA x]) SmA fun x => bl (sumRight x))
def K_l6Right : Nat × Contract := (Nm.spec_l6Right, .sc Atm (fun x => [atomA x]) SmA fun x => bl (atomRight x))
def K_Atomok : Nat × Contract := (Nm.impl_Atom_ok, .sc Atm (fun x => [atomA x]) SmA fun x => bl (atomRight x))
def K_sAtomOk : Nat × Contract := (Nm.spec_AtomOk, .sc (Sig × Atm) (fun x => [sigA x.1, atomA x.2]) (fun x => SmG x.1 ∧ SmA x.2) fun x => bl (atomOk x.1 x.2))
def K_isNumber : Nat × Contract := (Nm.impl_isNumber, .sc (Sig × TP) (fun x => [sigA x.1, termA x.2]) (fun x => SmG x.1 ∧ SmT (.mk x.2.1 x.2.2)) fun x => bl (isNum x.1 (.mk x.2.1 x.2.2)))
def K_AtomOk1 : Nat × Contract := (Nm.impl_AtomOk_1, .sc (TP × Sig) (fun x => [termA x.1, refs [syms x.2]]) (fun x => SmG x.2 ∧ SmT (.mk x.1.1 x.1.2)) fun x => bl (!isNum x.2 (.mk x.1.1 x.1.2)))
def K_IndexTerm : Nat × Contract := (Nm.slices_IndexFunc_Simpl_Term_impl_Term, .sc (List Tm × Sig) (fun x => [terms x.1, .fn (.func Nm.impl_AtomOk_1) [refs [syms x.2]]]) (fun x => SmTs x.1 ∧ SmG x.2) fun x => i64 (idx (fun y => !isNum x.2 y) x.1))
def K_ContainsTerm : Nat × Contract := (Nm.slices_ContainsFunc_Simpl_Term_impl_Term, .sc (List Tm × Sig) (fun x => [terms x.1, .fn (.func Nm.impl_AtomOk_1) [refs [syms x.2]]]) (fun x => SmTs x.1 ∧ SmG x.2) fun x => bl (x.1.any fun y => !isNum x.2 y))
def K_Eqsorted : Nat × Contract := (Nm.impl_Eq_sorted, .sc (TP × TP × Sig) (fun x => [.agg [st x.1.1, terms x.1.2, st x.2.1.1, terms x.2.1.2], sigA x.2.2]) (fun x => SmT (.mk x.1.1 x.1.2) ∧ SmT (.mk x.2.1.1 x.2.1.2) ∧ SmG x.2.2) fun x => bl (eqSorted x.2.2 (.mk x.1.1 x.1.2) (.mk x.2.1.1 x.2.1.2)))
def K_iAtomOk : Nat × Contract := (Nm.impl_AtomOk, .sc (Sig × Atm) (fun x => [sigA x.1, atomA x.2]) (fun x => SmG x.1 ∧ SmA x.2) fun x => bl (atomOk x.1 x.2))
def atomC (x : Atm) : List AV := [i64 x.1, st x.2.1.1, terms x.2.1.2, st x.2.2.1.1, terms x.2.2.1.2, terms x.2.2.2.1, ints x.2.2.2.2.1, i64 x.2.2.2.2.2.1, bl x.2.2.2.2.2.2]
def A_l4Text (a : ByteArray) (b : List Tm) : List Ann :=
  [.mk Nat (fun x => x ≤ b.length) (fun x => { fr := pad [.any, .ptr 0 0, .any, st (spell a (b.take x)), i64 x] 34, H := [.var [st a, terms b]] }) (fun x => b.length - x) (fun _ => [])]
def A_termText (a : ByteArray) (b : List Tm) : List Ann :=
  [.mk Nat (fun x => x ≤ b.length ∧ b ≠ []) (fun x => { fr := pad [.any, .ptr 0 0, .any, .osl 1 0 (textL (b.take x)).length, .any, .any, .any, .any, .any, .any, .any, .any, .any, terms b, i64 b.length, i64 x] 32, H := [.var [st a, terms b], arS (textL (b.take x))] }) (fun x => b.length - x) (fun _ => [])]
def A_l6Sum (a : Atm) : List Ann :=
  [.mk Nat (fun x => sumHead a = true ∧ x ≤ a.2.2.2.1.length ∧ numOk none a.2.2.2.1 a.2.2.2.2.1 = numOk (prevN a.2.2.2.1 x) (a.2.2.2.1.drop x) (a.2.2.2.2.1.drop x)) (fun x => { fr := pad [.any, .ptr 0 0, .any, i64 x] 97, H := [.var (atomC a)] }) (fun x => a.2.2.2.1.length - x) (fun _ => [])]
def A_Atomok (a : Atm) : List Ann :=
  [.mk Nat (fun x => a.1 = 2 ∧ sumHead a = true ∧ x ≤ a.2.2.2.1.length ∧ numOk none a.2.2.2.1 a.2.2.2.2.1 = numOk (prevN a.2.2.2.1 x) (a.2.2.2.1.drop x) (a.2.2.2.2.1.drop x)) (fun x => { fr := pad ([.any, .ptr 0 0] ++ List.replicate 72 .any ++ [terms a.2.2.2.1, i64 a.2.2.2.1.length, i64 x]) 118, H := [.var (atomC a)] }) (fun x => a.2.2.2.1.length - x) (fun _ => [])]
def A_sAtomOk (s : Sig) (a : Atm) : List Ann :=
  [.mk Nat (fun x => sigOk s = true ∧ atomRight a = true ∧ a.1 ≠ 1 ∧ x ≤ a.2.2.2.1.length ∧ a.2.2.2.1.all (isNum s) = (a.2.2.2.1.drop x).all (isNum s)) (fun x => { fr := pad [.any, .any, .ptr 0 0, .ptr 1 0, .any, .any, i64 x] 47, H := [.var [syms s], .var (atomC a)] }) (fun x => a.2.2.2.1.length - x) (fun _ => [])]
def A_IndexTerm (l : List Tm) (s : Sig) : List Ann :=
  [.mk Nat (fun x => x ≤ l.length ∧ idx (fun y => !isNum s y) l = if idx (fun y => !isNum s y) (l.drop x) < 0 then -1 else idx (fun y => !isNum s y) (l.drop x) + x)
    (fun x => { fr := pad [terms l, .fn (.func Nm.impl_AtomOk_1) [refs [syms s]], .any, .any, .any, .any, .any, i64 l.length, i64 x] 19, H := [] }) (fun x => l.length - x) (fun _ => [])]
end Cg
