/-
  Plain functions, and what is known of the codes' callees and loops: the values of terms. No condition.
-/
import Derived.Test.YtjhiaobcbbnhnaaGreatMokDefs
namespace Pl
open Go
def look (m : Mdl) (nm : ByteArray) (args : List Rt) : Rt := match m.find? fun r => decide (r.1 = nm) && decide (r.2.1 = args) with
  | some r => r.2.2
  | none => (0, 1)
mutual
def valT (m : Mdl) : Tm → Rt
  | .mk v ks => look m v (valL m ks)
def valL (m : Mdl) : List Tm → List Rt
  | [] => []
  | t :: ts => valT m t :: valL m ts
end
def bsF (c : Nat → Bool) (i j : Nat) : Nat := if i < j then (if c ((i + j) / 2) = true then bsF c ((i + j) / 2 + 1) j else bsF c i ((i + j) / 2)) else i
termination_by j - i
decreasing_by
  · omega
  · omega
def rowBelow (m : Mdl) (r : Rw) (i : Nat) : Bool := decide (cmpRows (m.getD i dR) r < 0)
def bsR (m : Mdl) (r : Rw) : Nat := bsF (rowBelow m r) 0 m.length
def bsHit (m : Mdl) (r : Rw) : Bool := decide (bsR m r < m.length) && decide (cmpRows (m.getD (bsR m r) dR) r = 0)
def modelTerm (s : Sig) (m : Mdl) (t : Tm) : Rt × Bool := if (!(termSort s t).2 || !modelOk s m) = true then ((0, 0), false) else (valT m t, true)
end Pl
namespace Cg
open Go Pl
def K_whole : Nat × Contract := (Nm.impl_whole, .sc Int (fun x => [i64 x]) (fun _ => True) fun x => ratA (x, 1))
def K_l7Look : Nat × Contract := (Nm.spec_l7Look, .sc (Mdl × ByteArray × List Rt) (fun x => [modelA x.1, st x.2.1, rats x.2.2]) (fun x => SmM x.1) fun x => ratA (look x.1 x.2.1 x.2.2))
def K_l7Term (n : Nat) : Nat × Contract := (Nm.spec_l7Term, .sc (Mdl × TP) (fun x => [modelA x.1, termA x.2]) (fun x => (SmM x.1 ∧ SmT (.mk x.2.1 x.2.2)) ∧ manyL x.2.2 < n) fun x => ratA (valT x.1 (.mk x.2.1 x.2.2)))
def K_lTm : Nat × Contract := (Nm.spec_l7Term, .sc (Mdl × TP) (fun x => [modelA x.1, termA x.2]) (fun x => SmM x.1 ∧ SmT (.mk x.2.1 x.2.2)) fun x => ratA (valT x.1 (.mk x.2.1 x.2.2)))
def K_BinRow : Nat × Contract := (Nm.slices_BinarySearchFunc_Simpl_Row_impl_Row_impl_Row, .sc (Mdl × Rw) (fun x => [mrows x.1, rowA x.2, .fn (.func Nm.impl_compareRows) []]) (fun x => SmM x.1 ∧ Sz x.2.2.1) fun x => .tup [i64 (bsR x.1 x.2), bl (bsHit x.1 x.2)])
def K_value (n : Nat) : Nat × Contract := (Nm.impl_Model_value, .sc (Mdl × TP) (fun x => [modelA x.1, termA x.2]) (fun x => (mL none x.1 = true ∧ SmM x.1 ∧ SmT (.mk x.2.1 x.2.2)) ∧ manyL x.2.2 < n) fun x => ratA (valT x.1 (.mk x.2.1 x.2.2)))
def K_val : Nat × Contract := (Nm.impl_Model_value, .sc (Mdl × TP) (fun x => [modelA x.1, termA x.2]) (fun x => mL none x.1 = true ∧ SmM x.1 ∧ SmT (.mk x.2.1 x.2.2)) fun x => ratA (valT x.1 (.mk x.2.1 x.2.2)))
def A_l7Look (m : Mdl) (nm : ByteArray) (args : List Rt) : List Ann :=
  [.mk Nat (fun x => x ≤ m.length ∧ look m nm args = look (m.drop x) nm args) (fun x => { fr := pad [.any, st nm, rats args, .ptr 0 0, .any, .any, .ptr 1 0, i64 x] 40, H := [.var [mrows m], .var [i64 0, i64 0]] }) (fun x => m.length - x) (fun _ => [])]
def A_l7Term (m : Mdl) (a : ByteArray) (b : List Tm) : List Ann :=
  [.mk Nat (fun x => x ≤ b.length) (fun x => { fr := pad [.any, .any, .ptr 0 0, .ptr 1 0, .ptr 2 0, .osl 3 0 (valL m (b.take x)).length, i64 x] 30, H := [.var [mrows m], .var [st a, terms b], .var [i64 0, i64 0], arQ (valL m (b.take x))] }) (fun x => b.length - x) (fun _ => [])]
def A_BinRow (m : Mdl) (r : Rw) : List Ann :=
  [.mk (Nat × Nat) (fun x => x.1 ≤ x.2 ∧ x.2 ≤ m.length ∧ bsR m r = bsF (rowBelow m r) x.1 x.2) (fun x => { fr := pad [mrows m, .any, .fn (.func Nm.impl_compareRows) [], .any, .ptr 0 0, .any, .any, .any, i64 m.length, i64 x.1, i64 x.2] 49, H := [.var [st r.1, rats r.2.1, i64 r.2.2.1, i64 r.2.2.2]] }) (fun x => x.2 - x.1) (fun _ => [])]
def A_value (m : Mdl) (a : ByteArray) (b : List Tm) : List Ann :=
  [.mk Nat (fun x => x ≤ b.length) (fun x => { fr := pad [.any, .any, .ptr 0 0, .ptr 1 0, .ptr 2 0, .ptr 3 0, .any, .any, .any, .any, .any, .any, .any, .any, terms b, i64 b.length, i64 x] 45, H := [.var [mrows m], .var [st a, terms b], .var [i64 0, i64 0], .var [st a, .osl 4 0 (valL m (b.take x)).length, i64 0, i64 0], arQ (valL m (b.take x))] }) (fun x => b.length - x) (fun _ => [])]
end Cg
