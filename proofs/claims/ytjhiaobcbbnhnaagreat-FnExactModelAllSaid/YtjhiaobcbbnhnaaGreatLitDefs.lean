/-
  Lists of literals: how they lie in cells; sizes, copies, equality. No condition.
-/
import Derived.Test.YtjhiaobcbbnhnaaGreatModelDefs
set_option linter.unusedVariables false
set_option linter.unusedSimpArgs false
namespace Pl
def dL : Ltr := ((0, (ByteArray.empty, []), (ByteArray.empty, []), [], [], 0, false), false)
def costLs (l : List Ltr) : Nat := l.length + sumN costL l
end Pl
namespace Cg
open Go Pl
def eL (x : Ltr) (j : Nat) : AV := match j with
  | 0 => i64 x.1.1
  | 1 => st x.1.2.1.1
  | 2 => terms x.1.2.1.2
  | 3 => st x.1.2.2.1.1
  | 4 => terms x.1.2.2.1.2
  | 5 => terms x.1.2.2.2.1
  | 6 => ints x.1.2.2.2.2.1
  | 7 => i64 x.1.2.2.2.2.2.1
  | 8 => bl x.1.2.2.2.2.2.2
  | _ => bl x.2
theorem EncN.eL : EncN 10 eL := fun x y => by
  constructor
  · intro h
    have h0 : Is (i64 x.1.1) (i64 y.1.1) := h 0 (by decide)
    have h1 : Is (st x.1.2.1.1) (st y.1.2.1.1) := h 1 (by decide)
    have h2 : Is (terms x.1.2.1.2) (terms y.1.2.1.2) := h 2 (by decide)
    have h3 : Is (st x.1.2.2.1.1) (st y.1.2.2.1.1) := h 3 (by decide)
    have h4 : Is (terms x.1.2.2.1.2) (terms y.1.2.2.1.2) := h 4 (by decide)
    have h5 : Is (terms x.1.2.2.2.1) (terms y.1.2.2.2.1) := h 5 (by decide)
    have h6 : Is (ints x.1.2.2.2.2.1) (ints y.1.2.2.2.2.1) := h 6 (by decide)
    have h7 : Is (i64 x.1.2.2.2.2.2.1) (i64 y.1.2.2.2.2.2.1) := h 7 (by decide)
    have h8 : Is (bl x.1.2.2.2.2.2.2) (bl y.1.2.2.2.2.2.2) := h 8 (by decide)
    have h9 : Is (bl x.2) (bl y.2) := h 9 (by decide)
    simp only [Is_i64, Is_u8, Is_bl, Is_st, Is_ints, Is_bools, Is_strs, Is_intss, Is_terms] at h0 h1 h2 h3 h4 h5 h6 h7 h8 h9
    grind
  · rintro rfl j hj
    match j, hj with
    | 0, _ => show Is (i64 x.1.1) (i64 x.1.1); simp
    | 1, _ => show Is (st x.1.2.1.1) (st x.1.2.1.1); simp
    | 2, _ => show Is (terms x.1.2.1.2) (terms x.1.2.1.2); simp
    | 3, _ => show Is (st x.1.2.2.1.1) (st x.1.2.2.1.1); simp
    | 4, _ => show Is (terms x.1.2.2.1.2) (terms x.1.2.2.1.2); simp
    | 5, _ => show Is (terms x.1.2.2.2.1) (terms x.1.2.2.2.1); simp
    | 6, _ => show Is (ints x.1.2.2.2.2.1) (ints x.1.2.2.2.2.1); simp
    | 7, _ => show Is (i64 x.1.2.2.2.2.2.1) (i64 x.1.2.2.2.2.2.1); simp
    | 8, _ => show Is (bl x.1.2.2.2.2.2.2) (bl x.1.2.2.2.2.2.2); simp
    | 9, _ => show Is (bl x.2) (bl x.2); simp
def cL (l : List Ltr) : Nat → Nat → AV := fun i j => eL (l.getD i dL) j
def litrs (l : List Ltr) : AV := .sl l.length 10 fun i j => eL (l.getD i dL) j
def arL (l : List Ltr) : AObj := .arr l.length 10 fun i j => eL (l.getD i dL) j
theorem Enc.litrs : Enc litrs := Enc.sln (by decide) EncN.eL dL
@[simp] theorem Is_litrs {x y : List Ltr} : Is (litrs x) (litrs y) ↔ x = y := Enc.litrs x y
@[simp] theorem IsO_litrs {x y : List Ltr} : IsO (arL x) (arL y) ↔ y = [] ∨ x = y := IsO_arn EncN.eL
@[simp] theorem IsO_litrs0 {n : Nat} {c : Nat → Nat → AV} : IsO (.arr n 10 c) (arL []) := IsO_nil
@[simp] theorem litrs_nil {q : Nat} {c : Nat → Nat → AV} {m : List Ltr} : Is (.lit 0 q c) (litrs m) ↔ m = [] := nil_sln
@[simp] theorem litrs_nilA {m : List Ltr} : Is nilA (litrs m) ↔ m = [] := nil_sln
theorem litrs_take {l m : List Ltr} {n : Nat} (h : n ≤ l.length) : Is (.sl n 10 (cL l)) (litrs m) ↔ l.take n = m := Is_take (by decide) EncN.eL h
theorem litrs_drop {l m : List Ltr} {n : Nat} : Is (.sl (l.length - n) 10 (fun i j => cL l (i + n) j)) (litrs m) ↔ l.drop n = m := Is_drop (by decide) EncN.eL
theorem litrs_mid {l m : List Ltr} {a n : Nat} (h : a + n ≤ l.length) : Is (.sl n 10 (fun i j => cL l (i + a) j)) (litrs m) ↔ (l.drop a).take n = m := Is_mid (by decide) EncN.eL h
@[simp] theorem litrs_join {l m : List Ltr} : IsO (.arr (l.length + m.length) 10 (joinC l.length (cL l) (cL m))) (arL (l ++ m)) := IsO_join EncN.eL (IsR_cel EncN.eL)
@[simp] theorem litrs_join0 {m : List Ltr} {c : Nat → Nat → AV} : IsO (.arr (0 + m.length) 10 (joinC 0 c (cL m))) (arL m) := IsO_join0 EncN.eL (IsR_cel EncN.eL)
@[simp] theorem litrs_join0' {m : List Ltr} {c : Nat → Nat → AV} : IsO (.arr m.length 10 (joinC 0 c (cL m))) (arL m) := IsO_join0 EncN.eL (IsR_cel EncN.eL)
theorem Is_rowL {k : Int} {a : ByteArray} {b : List Tm} {c : ByteArray} {d nums : List Tm} {times : List Int} {bound : Int} {strict no : Bool} {b' d' n' t' : AV} (hb : Is b' (terms b)) (hd : Is d' (terms d)) (hn : Is n' (terms nums)) (ht : Is t' (ints times)) : ∀ j, j < 10 → Is ([i64 k, st a, b', st c, d', n', t', i64 bound, bl strict, bl no].getD j .any) (eL ((k, (a, b), (c, d), nums, times, bound, strict), no) j) := fun j hj => by
  match j, hj with
  | 0, _ => exact (Enc.i64 k k).2 rfl
  | 1, _ => exact (Enc.st a a).2 rfl
  | 2, _ => exact hb
  | 3, _ => exact (Enc.st c c).2 rfl
  | 4, _ => exact hd
  | 5, _ => exact hn
  | 6, _ => exact ht
  | 7, _ => exact (Enc.i64 bound bound).2 rfl
  | 8, _ => exact (Enc.bl strict strict).2 rfl
  | 9, _ => exact (Enc.bl no no).2 rfl
@[simp] theorem litrs_set {l : List Ltr} {i : Nat} {k : Int} {a : ByteArray} {b : List Tm} {c : ByteArray} {d nums : List Tm} {times : List Int} {bound : Int} {strict no : Bool} : IsO (.arr l.length 10 (storeC (cL l) i 0 [i64 k, st a, terms b, st c, terms d, terms nums, ints times, i64 bound, bl strict, bl no])) (arL (l.set i ((k, (a, b), (c, d), nums, times, bound, strict), no))) := IsO_set EncN.eL rfl (Is_rowL ((Enc.terms b b).2 rfl) ((Enc.terms d d).2 rfl) ((Enc.terms nums nums).2 rfl) ((Enc.ints times times).2 rfl))
@[simp] theorem litrs_make {n : Nat} : IsO (.arr n 10 (fun _ j => [i64 0, st ByteArray.empty, nilA, st ByteArray.empty, nilA, nilA, nilA, i64 0, bl false, bl false].getD j .any)) (arL (List.replicate n dL)) := IsO_make EncN.eL (Is_rowL (terms_nilA.2 rfl) (terms_nilA.2 rfl) (terms_nilA.2 rfl) (ints_nilA.2 rfl))
abbrev MlLs (l : List Ltr) : Prop := l.length ≤ 9223372036854775807 ∧ ∀ x ∈ l, MlA x.1
abbrev SmLs (l : List Ltr) : Prop := costLs l ≤ 1048576
def K_szLitS : Nat × Contract := (Nm.laws_szLitS, .sc (List Ltr × Int) (fun x => [litrs x.1, i64 x.2]) (fun x => MlLs x.1 ∧ Fu x.2) fun x => i64 (lim (x.2 - costLs x.1)))
def K_toLitS : Nat × Contract := (Nm.laws_toLitS, .im (List Ltr) (fun x => [litrs x]) SmLs litrs)
noncomputable def K_eqLitS : Nat × Contract := (Nm.laws_eqLitS, .sc (List Ltr × List Ltr) (fun x => [litrs x.1, litrs x.2]) (fun x => SmLs x.1) fun x => bl (decide (x.1 = x.2)))
def A_szLitS (l : List Ltr) (k : Int) : List Ann :=
  [.mk Nat (fun x => x ≤ l.length ∧ 0 ≤ k - l.length - sumN costL (l.take x)) (fun x => { fr := pad [litrs l, i64 (k - l.length - sumN costL (l.take x)), .any, .any, .any, i64 x] 27, H := [] }) (fun x => l.length - x) (fun _ => [])]
def A_toLitS (l : List Ltr) : List Ann :=
  [.mk (Nat × List Ltr) (fun x => x.1 ≤ l.length ∧ x.2.length = l.length ∧ x.2.take x.1 = l.take x.1) (fun x => { fr := pad [litrs l, .any, .any, .osl 0 0 x.2.length, i64 x.1] 23, H := [arL x.2] }) (fun x => l.length - x.1) (fun _ => [])]
def A_eqLitS (l m : List Ltr) : List Ann :=
  [.mk Nat (fun x => x ≤ l.length ∧ l.length = m.length ∧ (l = m ↔ l.drop x = m.drop x)) (fun x => { fr := pad [litrs l, litrs m, .any, .any, .any, i64 x] 27, H := [] }) (fun x => l.length - x) (fun _ => [])]
end Cg
