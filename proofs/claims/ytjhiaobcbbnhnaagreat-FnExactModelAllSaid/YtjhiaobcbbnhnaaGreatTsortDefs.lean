/-
  Plain functions, and what is known of the codes' callees and loops: the sorts of terms. No condition.
-/
import Derived.Test.YtjhiaobcbbnhnaaGreatSortDefs
namespace Pl
open Go
def symOf (s : Sig) (nm : ByteArray) : Sym := (find s nm).getD dY
def termSort (s : Sig) (t : Tm) : Int × Bool := if (sigOk s && right t) = true then ((sortT s t).getD 0, (sortT s t).isSome) else (0, false)
end Pl
namespace Cg
open Go Pl
def K_l4Shape (n : Nat) : Nat × Contract := (Nm.spec_l4Shape, .sc TP (fun x => [termA x, i64 n]) (fun x => SmT (.mk x.1 x.2) ∧ n ≤ 10) fun x => bl (shape n (.mk x.1 x.2)))
def K_l4Many (n : Nat) : Nat × Contract := (Nm.spec_l4Many, .sc TP (fun x => [termA x, i64 n]) (fun x => SmT (.mk x.1 x.2) ∧ n ≤ 10) fun x => i64 (manyD n (.mk x.1 x.2)))
def K_l4Right : Nat × Contract := (Nm.spec_l4Right, .sc TP (fun x => [termA x]) (fun x => SmT (.mk x.1 x.2)) fun x => bl (right (.mk x.1 x.2)))
def K_l4Find : Nat × Contract := (Nm.spec_l4Find, .im (Sig × ByteArray) (fun x => [sigA x.1, st x.2]) (fun x => SmG x.1) fun x => .tup [symA (symOf x.1 x.2), bl (find x.1 x.2).isSome])
def K_symbol : Nat × Contract := (Nm.impl_Sig_symbol, .im (Sig × ByteArray) (fun x => [sigA x.1, st x.2]) (fun x => SmG x.1) fun x => .tup [symA (symOf x.1 x.2), bl (find x.1 x.2).isSome])
def K_l4Of (n : Nat) : Nat × Contract := (Nm.spec_l4Of, .sc (Sig × TP) (fun x => [sigA x.1, termA x.2]) (fun x => (sigOk x.1 = true ∧ SmG x.1 ∧ SmT (.mk x.2.1 x.2.2)) ∧ manyL x.2.2 < n) fun x => i64 ((sortT x.1 (.mk x.2.1 x.2.2)).getD (-1)))
def K_sortOf (n : Nat) : Nat × Contract := (Nm.impl_Sig_sortOf, .sc (Sig × TP) (fun x => [sigA x.1, termA x.2]) (fun x => (sigOk x.1 = true ∧ SmG x.1 ∧ SmT (.mk x.2.1 x.2.2)) ∧ manyL x.2.2 < n) fun x => .tup [i64 ((sortT x.1 (.mk x.2.1 x.2.2)).getD 0), bl (sortT x.1 (.mk x.2.1 x.2.2)).isSome])
def K_lOf : Nat × Contract := (Nm.spec_l4Of, .sc (Sig × TP) (fun x => [sigA x.1, termA x.2]) (fun x => sigOk x.1 = true ∧ SmG x.1 ∧ SmT (.mk x.2.1 x.2.2)) fun x => i64 ((sortT x.1 (.mk x.2.1 x.2.2)).getD (-1)))
def K_sOf : Nat × Contract := (Nm.impl_Sig_sortOf, .sc (Sig × TP) (fun x => [sigA x.1, termA x.2]) (fun x => sigOk x.1 = true ∧ SmG x.1 ∧ SmT (.mk x.2.1 x.2.2)) fun x => .tup [i64 ((sortT x.1 (.mk x.2.1 x.2.2)).getD 0), bl (sortT x.1 (.mk x.2.1 x.2.2)).isSome])
def K_iTermSort : Nat × Contract := (Nm.impl_TermSort, .sc (Sig × TP) (fun x => [sigA x.1, termA x.2]) (fun x => SmG x.1 ∧ SmT (.mk x.2.1 x.2.2)) fun x => .tup [i64 (termSort x.1 (.mk x.2.1 x.2.2)).1, bl (termSort x.1 (.mk x.2.1 x.2.2)).2])
def K_termSize (n : Nat) : Nat × Contract := (Nm.impl_termSize, .sc TP (fun x => [termA x, i64 (5 - (n : Int))]) (fun x => SmT (.mk x.1 x.2) ∧ n ≤ 4) fun x => i64 (tsz n (.mk x.1 x.2)))
def K_isTerm : Nat × Contract := (Nm.impl_isTerm, .sc TP (fun x => [termA x]) (fun x => SmT (.mk x.1 x.2)) fun x => bl (right (.mk x.1 x.2)))
def A_l4Shape (n : Nat) (a : ByteArray) (b : List Tm) : List Ann :=
  [.mk Nat (fun x => x ≤ b.length ∧ shape (n + 1) (.mk a b) = (b.drop x).all (shape n)) (fun x => { fr := pad [.any, i64 ((n + 1 : Nat) : Int), .ptr 0 0, .any, .any, i64 x] 36, H := [.var [st a, terms b]] }) (fun x => b.length - x) (fun _ => [])]
def A_l4Many (n : Nat) (a : ByteArray) (b : List Tm) : List Ann :=
  [.mk Nat (fun x => x ≤ b.length) (fun x => { fr := pad [.any, i64 ((n + 1 : Nat) : Int), .ptr 0 0, .any, .any, i64 ((1 + sumN (manyD n) (b.take x) : Nat) : Int), i64 x] 29, H := [.var [st a, terms b]] }) (fun x => b.length - x) (fun _ => [])]
def A_l4Many0 (a : ByteArray) (b : List Tm) : List Ann :=
  [.mk Unit (fun _ => True) (fun x => { fr := pad [.any, i64 0, .ptr 0 0, .any, .any, i64 1, i64 0] 29, H := [.var [st a, terms b]] }) (fun _ => 0) (fun _ => [])]
def A_termSize (n : Nat) (a : ByteArray) (b : List Tm) : List Ann :=
  [.mk Nat (fun x => x ≤ b.length ∧ b.length ≤ 2) (fun x => { fr := pad [.any, i64 (5 - ((n + 1 : Nat) : Int)), .ptr 0 0, .any, .any, i64 ((1 + sumN (tsz n) (b.take x) : Nat) : Int), .any, .any, .any, .any, .any, .any, .any, .any, .any, .any, .any, .any, .any, .any, .any, .any, .any, terms b, i64 b.length, i64 x] 37, H := [.var [st a, terms b]] }) (fun x => b.length - x) (fun _ => [])]
def A_l4Find (s : Sig) (nm : ByteArray) : List Ann :=
  [.mk Nat (fun x => x ≤ s.length ∧ find s nm = find (s.drop x) nm) (fun x => { fr := pad [.any, st nm, .ptr 0 0, .any, .ptr 1 0, .any, i64 x] 28, H := [.var [syms s], .var [st ByteArray.empty, nilA, i64 0]] }) (fun x => s.length - x) (fun _ => [])]
def A_symbol (s : Sig) (nm : ByteArray) : List Ann :=
  [.mk Nat (fun x => x ≤ s.length ∧ find s nm = find (s.drop x) nm) (fun x => { fr := pad [.any, st nm, .ptr 0 0, .any, .ptr 1 0, .any, .any, .any, .any, syms s, i64 s.length, i64 x] 22, H := [.var [syms s], .var [st ByteArray.empty, nilA, i64 0]] }) (fun x => s.length - x) (fun _ => [])]
def A_l4Of (s : Sig) (a : ByteArray) (b : List Tm) : List Ann :=
  [.mk Nat (fun x => x ≤ b.length ∧ (symOf s a).2.1.length = b.length ∧ (find s a).isSome = true ∧ sortL s b (symOf s a).2.1 = sortL s (b.drop x) ((symOf s a).2.1.drop x))
    (fun x => { fr := pad [.any, .any, .ptr 0 0, .ptr 1 0, .any, .ptr 2 0, .any, i64 x] 48, H := [.var [syms s], .var [st a, terms b], .var [st (symOf s a).1, ints (symOf s a).2.1, i64 (symOf s a).2.2]] }) (fun x => b.length - x) (fun _ => [])]
def A_sortOf (s : Sig) (a : ByteArray) (b : List Tm) : List Ann :=
  [.mk Nat (fun x => x ≤ b.length ∧ (symOf s a).2.1.length = b.length ∧ (find s a).isSome = true ∧ sortL s b (symOf s a).2.1 = sortL s (b.drop x) ((symOf s a).2.1.drop x))
    (fun x => { fr := pad [.any, .any, .ptr 0 0, .ptr 1 0, .any, .any, .ptr 2 0, .any, .any, .any, .any, .any, .any, .any, .any, .any, .any, .any, .any, .any, .any, .any, .any, .any, .any, .any, .any, .any, .any, .any, .any, terms b, i64 b.length, i64 x] 58, H := [.var [syms s], .var [st a, terms b], .var [st (symOf s a).1, ints (symOf s a).2.1, i64 (symOf s a).2.2]] }) (fun x => b.length - x) (fun _ => [])]
end Cg
