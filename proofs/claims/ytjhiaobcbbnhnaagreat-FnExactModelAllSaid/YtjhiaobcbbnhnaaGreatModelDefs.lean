/-
  Models: how they lie in cells; sizes, copies, equality. No condition.
-/
import Derived.Test.YtjhiaobcbbnhnaaGreatSameDefs
set_option linter.unusedVariables false
set_option linter.unusedSimpArgs false
namespace Pl
abbrev Rt := Int × Int
abbrev Rw := ByteArray × List Rt × Rt
abbrev Mdl := List Rw
noncomputable instance instRw : DecidableEq Rw := fun a b => Classical.propDecidable (a = b)
def dQ : Rt := (0, 0)
def dR : Rw := (ByteArray.empty, [], 0, 0)
def costR (x : Rw) : Nat := x.1.size + x.2.1.length
def costM (m : Mdl) : Nat := m.length + sumN costR m
end Pl
namespace Cg
open Go Pl
def eQ (x : Rt) (j : Nat) : AV := match j with
  | 0 => i64 x.1
  | _ => i64 x.2
theorem EncN.eQ : EncN 2 eQ := fun x y => by
  constructor
  · intro h
    have h0 : Is (i64 x.1) (i64 y.1) := h 0 (by decide)
    have h1 : Is (i64 x.2) (i64 y.2) := h 1 (by decide)
    simp only [Is_i64, Is_u8, Is_bl, Is_st, Is_ints, Is_bools, Is_strs, Is_intss] at h0 h1
    grind
  · rintro rfl j hj
    match j, hj with
    | 0, _ => show Is (i64 x.1) (i64 x.1); simp
    | 1, _ => show Is (i64 x.2) (i64 x.2); simp
def cQ (l : List Rt) : Nat → Nat → AV := fun i j => eQ (l.getD i dQ) j
def rats (l : List Rt) : AV := .sl l.length 2 fun i j => eQ (l.getD i dQ) j
def arQ (l : List Rt) : AObj := .arr l.length 2 fun i j => eQ (l.getD i dQ) j
theorem Enc.rats : Enc rats := Enc.sln (by decide) EncN.eQ dQ
@[simp] theorem Is_rats {x y : List Rt} : Is (rats x) (rats y) ↔ x = y := Enc.rats x y
@[simp] theorem IsO_rats {x y : List Rt} : IsO (arQ x) (arQ y) ↔ y = [] ∨ x = y := IsO_arn EncN.eQ
@[simp] theorem IsO_rats0 {n : Nat} {c : Nat → Nat → AV} : IsO (.arr n 2 c) (arQ []) := IsO_nil
@[simp] theorem rats_nil {q : Nat} {c : Nat → Nat → AV} {m : List Rt} : Is (.lit 0 q c) (rats m) ↔ m = [] := nil_sln
@[simp] theorem rats_nilA {m : List Rt} : Is nilA (rats m) ↔ m = [] := nil_sln
theorem rats_take {l m : List Rt} {n : Nat} (h : n ≤ l.length) : Is (.sl n 2 (cQ l)) (rats m) ↔ l.take n = m := Is_take (by decide) EncN.eQ h
theorem rats_drop {l m : List Rt} {n : Nat} : Is (.sl (l.length - n) 2 (fun i j => cQ l (i + n) j)) (rats m) ↔ l.drop n = m := Is_drop (by decide) EncN.eQ
theorem rats_mid {l m : List Rt} {a n : Nat} (h : a + n ≤ l.length) : Is (.sl n 2 (fun i j => cQ l (i + a) j)) (rats m) ↔ (l.drop a).take n = m := Is_mid (by decide) EncN.eQ h
@[simp] theorem rats_join {l m : List Rt} : IsO (.arr (l.length + m.length) 2 (joinC l.length (cQ l) (cQ m))) (arQ (l ++ m)) := IsO_join EncN.eQ (IsR_cel EncN.eQ)
@[simp] theorem rats_join0 {m : List Rt} {c : Nat → Nat → AV} : IsO (.arr (0 + m.length) 2 (joinC 0 c (cQ m))) (arQ m) := IsO_join0 EncN.eQ (IsR_cel EncN.eQ)
@[simp] theorem rats_join0' {m : List Rt} {c : Nat → Nat → AV} : IsO (.arr m.length 2 (joinC 0 c (cQ m))) (arQ m) := IsO_join0 EncN.eQ (IsR_cel EncN.eQ)
def eR (x : Rw) (j : Nat) : AV := match j with
  | 0 => st x.1
  | 1 => rats x.2.1
  | 2 => i64 x.2.2.1
  | _ => i64 x.2.2.2
theorem EncN.eR : EncN 4 eR := fun x y => by
  constructor
  · intro h
    have h0 : Is (st x.1) (st y.1) := h 0 (by decide)
    have h1 : Is (rats x.2.1) (rats y.2.1) := h 1 (by decide)
    have h2 : Is (i64 x.2.2.1) (i64 y.2.2.1) := h 2 (by decide)
    have h3 : Is (i64 x.2.2.2) (i64 y.2.2.2) := h 3 (by decide)
    simp only [Is_i64, Is_u8, Is_bl, Is_st, Is_ints, Is_bools, Is_strs, Is_intss, Is_rats] at h0 h1 h2 h3
    grind
  · rintro rfl j hj
    match j, hj with
    | 0, _ => show Is (st x.1) (st x.1); simp
    | 1, _ => show Is (rats x.2.1) (rats x.2.1); simp
    | 2, _ => show Is (i64 x.2.2.1) (i64 x.2.2.1); simp
    | 3, _ => show Is (i64 x.2.2.2) (i64 x.2.2.2); simp
def cR (l : List Rw) : Nat → Nat → AV := fun i j => eR (l.getD i dR) j
def mrows (l : List Rw) : AV := .sl l.length 4 fun i j => eR (l.getD i dR) j
def arR (l : List Rw) : AObj := .arr l.length 4 fun i j => eR (l.getD i dR) j
theorem Enc.mrows : Enc mrows := Enc.sln (by decide) EncN.eR dR
@[simp] theorem Is_mrows {x y : List Rw} : Is (mrows x) (mrows y) ↔ x = y := Enc.mrows x y
@[simp] theorem IsO_mrows {x y : List Rw} : IsO (arR x) (arR y) ↔ y = [] ∨ x = y := IsO_arn EncN.eR
@[simp] theorem IsO_mrows0 {n : Nat} {c : Nat → Nat → AV} : IsO (.arr n 4 c) (arR []) := IsO_nil
@[simp] theorem mrows_nil {q : Nat} {c : Nat → Nat → AV} {m : List Rw} : Is (.lit 0 q c) (mrows m) ↔ m = [] := nil_sln
@[simp] theorem mrows_nilA {m : List Rw} : Is nilA (mrows m) ↔ m = [] := nil_sln
theorem mrows_take {l m : List Rw} {n : Nat} (h : n ≤ l.length) : Is (.sl n 4 (cR l)) (mrows m) ↔ l.take n = m := Is_take (by decide) EncN.eR h
theorem mrows_drop {l m : List Rw} {n : Nat} : Is (.sl (l.length - n) 4 (fun i j => cR l (i + n) j)) (mrows m) ↔ l.drop n = m := Is_drop (by decide) EncN.eR
theorem mrows_mid {l m : List Rw} {a n : Nat} (h : a + n ≤ l.length) : Is (.sl n 4 (fun i j => cR l (i + a) j)) (mrows m) ↔ (l.drop a).take n = m := Is_mid (by decide) EncN.eR h
@[simp] theorem mrows_join {l m : List Rw} : IsO (.arr (l.length + m.length) 4 (joinC l.length (cR l) (cR m))) (arR (l ++ m)) := IsO_join EncN.eR (IsR_cel EncN.eR)
@[simp] theorem mrows_join0 {m : List Rw} {c : Nat → Nat → AV} : IsO (.arr (0 + m.length) 4 (joinC 0 c (cR m))) (arR m) := IsO_join0 EncN.eR (IsR_cel EncN.eR)
@[simp] theorem mrows_join0' {m : List Rw} {c : Nat → Nat → AV} : IsO (.arr m.length 4 (joinC 0 c (cR m))) (arR m) := IsO_join0 EncN.eR (IsR_cel EncN.eR)
theorem Is_rowQ {a b : Int} : ∀ j, j < 2 → Is ([i64 a, i64 b].getD j .any) (eQ (a, b) j) := fun j hj => by
  match j, hj with
  | 0, _ => exact (Enc.i64 a a).2 rfl
  | 1, _ => exact (Enc.i64 b b).2 rfl
@[simp] theorem rats_set {l : List Rt} {i : Nat} {a b : Int} : IsO (.arr l.length 2 (storeC (cQ l) i 0 [i64 a, i64 b])) (arQ (l.set i (a, b))) := IsO_set EncN.eQ rfl Is_rowQ
@[simp] theorem rats_make {n : Nat} : IsO (.arr n 2 (fun _ j => [i64 0, i64 0].getD j .any)) (arQ (List.replicate n dQ)) := IsO_make EncN.eQ Is_rowQ
theorem rats_row (a b : Int) : IsR 2 eQ dQ (rowsCell [[i64 a, i64 b]]) [(a, b)] := IsR_row EncN.eQ Is_rowQ
@[simp] theorem rats_push {l : List Rt} {a b : Int} : IsO (.arr (l.length + 1) 2 (joinC l.length (cQ l) (rowsCell [[i64 a, i64 b]]))) (arQ (l ++ [(a, b)])) := IsO_join EncN.eQ (rats_row a b)
@[simp] theorem rats_push0 {a b : Int} {c : Nat → Nat → AV} : IsO (.arr (0 + 1) 2 (joinC 0 c (rowsCell [[i64 a, i64 b]]))) (arQ [(a, b)]) := IsO_join0 EncN.eQ (rats_row a b)
@[simp] theorem rats_push1 {a b : Int} {c : Nat → Nat → AV} : IsO (.arr 1 2 (joinC 0 c (rowsCell [[i64 a, i64 b]]))) (arQ [(a, b)]) := IsO_join0 EncN.eQ (rats_row a b)
theorem Is_rowR {a : ByteArray} {l : List Rt} {c d : Int} {b : AV} (hb : Is b (rats l)) : ∀ j, j < 4 → Is ([st a, b, i64 c, i64 d].getD j .any) (eR (a, l, c, d) j) := fun j hj => by
  match j, hj with
  | 0, _ => exact (Enc.st a a).2 rfl
  | 1, _ => exact hb
  | 2, _ => exact (Enc.i64 c c).2 rfl
  | 3, _ => exact (Enc.i64 d d).2 rfl
@[simp] theorem mrows_set {l : List Rw} {i : Nat} {a : ByteArray} {b : List Rt} {c d : Int} : IsO (.arr l.length 4 (storeC (cR l) i 0 [st a, rats b, i64 c, i64 d])) (arR (l.set i (a, b, c, d))) := IsO_set EncN.eR rfl (Is_rowR ((Enc.rats b b).2 rfl))
@[simp] theorem mrows_make {n : Nat} : IsO (.arr n 4 (fun _ j => [st ByteArray.empty, nilA, i64 0, i64 0].getD j .any)) (arR (List.replicate n dR)) := IsO_make EncN.eR (Is_rowR (rats_nilA.2 rfl))
def ratA (x : Rt) : AV := .agg [i64 x.1, i64 x.2]
def rowA (x : Rw) : AV := .agg [st x.1, rats x.2.1, i64 x.2.2.1, i64 x.2.2.2]
def modelA (m : Mdl) : AV := .agg [mrows m]
abbrev MlR (x : Rw) : Prop := x.1.size ≤ 9223372036854775807 ∧ x.2.1.length ≤ 9223372036854775807
abbrev MlM (m : Mdl) : Prop := m.length ≤ 9223372036854775807 ∧ ∀ x ∈ m, MlR x
abbrev SmM (m : Mdl) : Prop := costM m ≤ 1048576
def K_szRatS : Nat × Contract := (Nm.laws_szRatS, .sc (List Rt × Int) (fun x => [rats x.1, i64 x.2]) (fun x => Ml x.1 ∧ Fu x.2) fun x => i64 (lim (x.2 - x.1.length)))
def K_szRow : Nat × Contract := (Nm.laws_szRow, .sc (Rw × Int) (fun x => [rowA x.1, i64 x.2]) (fun x => MlR x.1 ∧ Fu x.2) fun x => i64 (lim (x.2 - costR x.1)))
def K_szRowS : Nat × Contract := (Nm.laws_szRowS, .sc (Mdl × Int) (fun x => [mrows x.1, i64 x.2]) (fun x => MlM x.1 ∧ Fu x.2) fun x => i64 (lim (x.2 - costM x.1)))
def K_szModel : Nat × Contract := (Nm.laws_szModel, .sc (Mdl × Int) (fun x => [modelA x.1, i64 x.2]) (fun x => MlM x.1 ∧ Fu x.2) fun x => i64 (lim (x.2 - costM x.1)))
def K_toRat : Nat × Contract := (Nm.laws_toRat, .sc Rt (fun x => [ratA x]) (fun _ => True) ratA)
def K_toRatS : Nat × Contract := (Nm.laws_toRatS, .im (List Rt) (fun x => [rats x]) Sz rats)
def K_toRow : Nat × Contract := (Nm.laws_toRow, .im Rw (fun x => [rowA x]) (fun x => Sz x.2.1) rowA)
def K_toRowS : Nat × Contract := (Nm.laws_toRowS, .im Mdl (fun x => [mrows x]) SmM mrows)
def K_toModel : Nat × Contract := (Nm.laws_toModel, .im Mdl (fun x => [modelA x]) SmM modelA)
def K_eqRat : Nat × Contract := (Nm.laws_eqRat, .sc (Rt × Rt) (fun x => [ratA x.1, ratA x.2]) (fun _ => True) fun x => bl (decide (x.1 = x.2)))
def K_eqRatS : Nat × Contract := (Nm.laws_eqRatS, .sc (List Rt × List Rt) (fun x => [rats x.1, rats x.2]) (fun x => Sz x.1) fun x => bl (decide (x.1 = x.2)))
noncomputable def K_eqRow : Nat × Contract := (Nm.laws_eqRow, .sc (Rw × Rw) (fun x => [rowA x.1, rowA x.2]) (fun x => Sz x.1.2.1) fun x => bl (decide (x.1 = x.2)))
noncomputable def K_eqRowS : Nat × Contract := (Nm.laws_eqRowS, .sc (Mdl × Mdl) (fun x => [mrows x.1, mrows x.2]) (fun x => SmM x.1) fun x => bl (decide (x.1 = x.2)))
noncomputable def K_eqModel : Nat × Contract := (Nm.laws_eqModel, .sc (Mdl × Mdl) (fun x => [modelA x.1, modelA x.2]) (fun x => SmM x.1) fun x => bl (decide (x.1 = x.2)))
def K_l7Rats : Nat × Contract := (Nm.spec_l7Rats, .sc (List Rt × List Rt) (fun x => [rats x.1, rats x.2]) (fun x => Sz x.1) fun x => bl (decide (x.1 = x.2)))
def A_szRowS (l : Mdl) (k : Int) : List Ann :=
  [.mk Nat (fun x => x ≤ l.length ∧ 0 ≤ k - l.length - sumN costR (l.take x)) (fun x => { fr := pad [mrows l, i64 (k - l.length - sumN costR (l.take x)), .any, .any, .any, i64 x] 27, H := [] }) (fun x => l.length - x) (fun _ => [])]
def A_toRatS (l : List Rt) : List Ann :=
  [.mk (Nat × List Rt) (fun x => x.1 ≤ l.length ∧ x.2.length = l.length ∧ x.2.take x.1 = l.take x.1) (fun x => { fr := pad [rats l, .any, .any, .osl 0 0 x.2.length, i64 x.1] 23, H := [arQ x.2] }) (fun x => l.length - x.1) (fun _ => [])]
def A_toRowS (l : Mdl) : List Ann :=
  [.mk (Nat × Mdl) (fun x => x.1 ≤ l.length ∧ x.2.length = l.length ∧ x.2.take x.1 = l.take x.1) (fun x => { fr := pad [mrows l, .any, .any, .osl 0 0 x.2.length, i64 x.1] 23, H := [arR x.2] }) (fun x => l.length - x.1) (fun _ => [])]
def A_eqRatS (l m : List Rt) : List Ann :=
  [.mk Nat (fun x => x ≤ l.length ∧ l.length = m.length ∧ (l = m ↔ l.drop x = m.drop x)) (fun x => { fr := pad [rats l, rats m, .any, .any, .any, i64 x] 27, H := [] }) (fun x => l.length - x) (fun _ => [])]
def A_eqRowS (l m : Mdl) : List Ann :=
  [.mk Nat (fun x => x ≤ l.length ∧ l.length = m.length ∧ (l = m ↔ l.drop x = m.drop x)) (fun x => { fr := pad [mrows l, mrows m, .any, .any, .any, i64 x] 27, H := [] }) (fun x => l.length - x) (fun _ => [])]
def A_l7Rats (l m : List Rt) : List Ann :=
  [.mk Nat (fun x => x ≤ l.length ∧ l.length = m.length ∧ (l = m ↔ l.drop x = m.drop x)) (fun x => { fr := pad [rats l, rats m, .any, .any, .any, i64 x] 26, H := [] }) (fun x => l.length - x) (fun _ => [])]
def A_EqualRats (l m : List Rt) : List Ann :=
  [.mk Nat (fun x => x ≤ l.length ∧ l.length = m.length ∧ (l = m ↔ l.drop x = m.drop x)) (fun x => { fr := pad [rats l, rats m, .any, .any, .any, .any, .any, .any, .any, .any, .any, rats l, i64 l.length, i64 x] 26, H := [] }) (fun x => l.length - x) (fun _ => [])]
def A_sModelSame (l m : Mdl) : List Ann :=
  [.mk Nat (fun x => x ≤ l.length ∧ l.length = m.length ∧ (l = m ↔ l.drop x = m.drop x)) (fun x => { fr := pad [.any, .any, .ptr 0 0, .ptr 1 0, .any, i64 x] 64, H := [.var [mrows l], .var [mrows m]] }) (fun x => l.length - x) (fun _ => [])]
end Cg
