/-
  Plain functions, and what is known of the codes' callees and loops: words. No condition.
-/
import Derived.Test.YtjhiaobcbbnhnaaGreatTermDefs
import Derived.Test.YtjhiaobcbbnhnaaGreatRowsDefs
namespace Pl
open Go
abbrev Sig := List Sym
def bs (s : ByteArray) : List UInt8 := s.data.toList
def lower (b : UInt8) : Bool := !(decide ((b.toNat : Int) < 97) || decide ((b.toNat : Int) > 122))
def nameOk (s : ByteArray) : Bool := decide (1 ≤ s.size) && decide (s.size ≤ 2) && (bs s).all lower
def isSort (n : Int) : Bool := decide (n = 0) || decide (n = 1)
def symOk (x : Sym) : Bool := nameOk x.1 && decide (x.2.1.length ≤ 2) && isSort x.2.2 && x.2.1.all isSort
def sLess (a b : ByteArray) : Bool := Op.bytesLess a.toList b.toList
def before (p : Option ByteArray) (x : ByteArray) : Bool := match p with
  | none => true
  | some q => sLess q x
def sigL : Option ByteArray → List Sym → Bool
  | _, [] => true
  | p, x :: xs => symOk x && before p x.1 && sigL (some x.1) xs
def sigOk (s : Sig) : Bool := sigL none s && decide (s.length ≤ 7)
def prevS (s : Sig) (k : Nat) : Option ByteArray := if k = 0 then none else some (s.getD (k - 1) dY).1
def lim (x : Int) : Int := if x < 0 then -1 else x
def costY (x : Sym) : Nat := x.1.size + x.2.1.length
def sumN {α : Type} (f : α → Nat) : List α → Nat
  | [] => 0
  | x :: xs => f x + sumN f xs
def costG (s : Sig) : Nat := s.length + sumN costY s
end Pl
namespace Cg
open Go Pl
def symA (x : Sym) : AV := .agg [st x.1, ints x.2.1, i64 x.2.2]
def sigA (s : Sig) : AV := .agg [syms s]
/-- A word whose parts are of any size at all, or of some. -/
abbrev MlY (x : Sym) : Prop := x.1.size ≤ 9223372036854775807 ∧ x.2.1.length ≤ 9223372036854775807
abbrev MlG (s : Sig) : Prop := s.length ≤ 9223372036854775807 ∧ ∀ x ∈ s, MlY x
abbrev SmG (s : Sig) : Prop := costG s ≤ 1048576
def K_szSym : Nat × Contract := (Nm.laws_szSym, .sc (Sym × Int) (fun x => [symA x.1, i64 x.2]) (fun x => MlY x.1 ∧ Fu x.2) fun x => i64 (lim (x.2 - costY x.1)))
def K_szSymS : Nat × Contract := (Nm.laws_szSymS, .sc (Sig × Int) (fun x => [syms x.1, i64 x.2]) (fun x => MlG x.1 ∧ Fu x.2) fun x => i64 (lim (x.2 - costG x.1)))
def K_szSig : Nat × Contract := (Nm.laws_szSig, .sc (Sig × Int) (fun x => [sigA x.1, i64 x.2]) (fun x => MlG x.1 ∧ Fu x.2) fun x => i64 (lim (x.2 - costG x.1)))
def K_toSym : Nat × Contract := (Nm.laws_toSym, .im Sym (fun x => [symA x]) (fun x => Sz x.2.1) symA)
def K_toSymS : Nat × Contract := (Nm.laws_toSymS, .im Sig (fun x => [syms x]) SmG syms)
def K_toSig : Nat × Contract := (Nm.laws_toSig, .im Sig (fun x => [sigA x]) SmG sigA)
def K_eqSym : Nat × Contract := (Nm.laws_eqSym, .sc (Sym × Sym) (fun x => [symA x.1, symA x.2]) (fun x => Sz x.1.2.1) fun x => bl (decide (x.1 = x.2)))
def K_eqSymS : Nat × Contract := (Nm.laws_eqSymS, .sc (Sig × Sig) (fun x => [syms x.1, syms x.2]) (fun x => SmG x.1) fun x => bl (decide (x.1 = x.2)))
def K_eqSig : Nat × Contract := (Nm.laws_eqSig, .sc (Sig × Sig) (fun x => [sigA x.1, sigA x.2]) (fun x => SmG x.1) fun x => bl (decide (x.1 = x.2)))
def K_sNameOk : Nat × Contract := (Nm.spec_NameOk, .sc ByteArray (fun x => [st x]) (fun x => x.size ≤ 1048576) fun x => bl (nameOk x))
def K_iNameOk : Nat × Contract := (Nm.impl_NameOk, .sc ByteArray (fun x => [st x]) (fun x => x.size ≤ 1048576) fun x => bl (nameOk x))
def K_l4Sort : Nat × Contract := (Nm.spec_l4Sort, .sc Int (fun x => [i64 x]) (fun _ => True) fun x => bl (isSort x))
def K_isSort : Nat × Contract := (Nm.impl_isSort, .sc Int (fun x => [i64 x]) (fun _ => True) fun x => bl (isSort x))
def K_sSigOk : Nat × Contract := (Nm.spec_SigOk, .sc Sig (fun x => [sigA x]) SmG fun x => bl (sigOk x))
def K_iSigOk : Nat × Contract := (Nm.impl_SigOk, .sc Sig (fun x => [sigA x]) SmG fun x => bl (sigOk x))
def K_symok : Nat × Contract := (Nm.impl_Sym_ok, .sc Sym (fun x => [symA x]) (fun x => x.1.size ≤ 1048576 ∧ Sz x.2.1) fun x => bl (symOk x))
def K_symok1 : Nat × Contract := (Nm.impl_Sym_ok_1, .sc Int (fun x => [i64 x]) (fun _ => True) fun x => bl (!isSort x))
def K_IndexSort : Nat × Contract := (Nm.slices_IndexFunc_Sint_int, .sc (List Int) (fun x => [ints x, .fn (.func Nm.impl_Sym_ok_1) []]) (fun x => Sz x) fun x => i64 (idx (fun y => !isSort y) x))
def K_ContainsSort : Nat × Contract := (Nm.slices_ContainsFunc_Sint_int, .sc (List Int) (fun x => [ints x, .fn (.func Nm.impl_Sym_ok_1) []]) (fun x => Sz x) fun x => bl (x.any fun y => !isSort y))
def A_szSymS (s : Sig) (k : Int) : List Ann :=
  [.mk Nat (fun x => x ≤ s.length ∧ 0 ≤ k - s.length - sumN costY (s.take x)) (fun x => { fr := pad [syms s, i64 (k - s.length - sumN costY (s.take x)), .any, .any, .any, i64 x] 27, H := [] }) (fun x => s.length - x) (fun _ => [])]
def A_toSymS (s : Sig) : List Ann :=
  [.mk (Nat × Sig) (fun x => x.1 ≤ s.length ∧ x.2.length = s.length ∧ x.2.take x.1 = s.take x.1) (fun x => { fr := pad [syms s, .any, .any, .osl 0 0 x.2.length, i64 x.1] 23, H := [arY x.2] }) (fun x => s.length - x.1) (fun _ => [])]
def A_eqSymS (s t : Sig) : List Ann :=
  [.mk Nat (fun x => x ≤ s.length ∧ s.length = t.length ∧ (s = t ↔ s.drop x = t.drop x)) (fun x => { fr := pad [syms s, syms t, .any, .any, .any, i64 x] 27, H := [] }) (fun x => s.length - x) (fun _ => [])]
def A_sNameOk (s : ByteArray) : List Ann :=
  [.mk Nat (fun x => x ≤ s.size ∧ (bs s).all lower = ((bs s).drop x).all lower) (fun x => { fr := pad [st s, .any, .any, i64 x] 28, H := [] }) (fun x => s.size - x) (fun _ => [])]
def A_iNameOk (s : ByteArray) : List Ann :=
  [.mk Nat (fun x => x ≤ s.size ∧ (bs s).all lower = ((bs s).drop x).all lower) (fun x => { fr := pad [st s, .any, .any, .any, .any, .any, .any, .any, .any, i64 s.size, i64 x] 24, H := [] }) (fun x => s.size - x) (fun _ => [])]
def A_IndexSort (l : List Int) : List Ann :=
  [.mk Nat (fun x => x ≤ l.length ∧ idx (fun y => !isSort y) l = if idx (fun y => !isSort y) (l.drop x) < 0 then -1 else idx (fun y => !isSort y) (l.drop x) + x)
    (fun x => { fr := pad [ints l, .fn (.func Nm.impl_Sym_ok_1) [], .any, .any, .any, .any, .any, i64 l.length, i64 x] 19, H := [] }) (fun x => l.length - x) (fun _ => [])]
def A_sSigOk (s : Sig) : List Ann :=
  [.mk Nat (fun x => x ≤ s.length ∧ sigL none s = sigL (prevS s x) (s.drop x)) (fun x => { fr := pad [.any, .ptr 0 0, .any, i64 x] 68, H := [.var [syms s]] }) (fun x => s.length - x)
    (fun x => [.mk Nat (fun j => x < s.length ∧ j ≤ (s.getD x dY).2.1.length ∧ (s.getD x dY).2.1.all isSort = ((s.getD x dY).2.1.drop j).all isSort ∧ (nameOk (s.getD x dY).1 && decide ((s.getD x dY).2.1.length ≤ 2) && isSort (s.getD x dY).2.2) = true ∧ before (prevS s x) (s.getD x dY).1 = true)
      (fun j => { fr := pad [.any, .ptr 0 0, .any, i64 x, .ptr 1 0, i64 j] 68, H := [.var [syms s], .var [st (s.getD x dY).1, ints (s.getD x dY).2.1, i64 (s.getD x dY).2.2]] }) (fun j => (s.getD x dY).2.1.length - j) (fun _ => [])])]
def A_iSigOk (s : Sig) : List Ann :=
  [.mk Nat (fun x => x ≤ s.length ∧ sigL none s = sigL (prevS s x) (s.drop x)) (fun x => { fr := pad [.any, .ptr 0 0, .any, .any, .any, .any, syms s, i64 s.length, i64 x] 37, H := [.var [syms s]] }) (fun x => s.length - x) (fun _ => [])]
end Cg
