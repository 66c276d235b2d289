/-
  Words and terms: how they lie in cells. No condition.
-/
import Derived.Test.YtjhiaobcbbnhnaaGreatTreeDefs
set_option linter.unusedVariables false
set_option linter.unusedSimpArgs false
namespace Pl
abbrev Tm := Tree ByteArray
abbrev TP := ByteArray × List Tm
abbrev Sym := ByteArray × List Int × Int
def dT : Tm := .mk ByteArray.empty []
def dY : Sym := (ByteArray.empty, [], 0)
end Pl
namespace Cg
open Go Pl
def subT (t : Tm) : Nat → Nat → AV := subTr 1 eS t
def eT (t : Tm) (j : Nat) : AV := match j with
  | 0 => st t.val
  | _ => .sl t.kids.length 2 (subT t)
theorem eT_tr (t : Tm) : ∀ j, j < 2 → eT t j = eTr 1 eS t j
  | 0, _ => (eTr_lt (k := 1) (e := eS) (t := t) (j := 0) (by decide)).symm
  | 1, _ => (eTr_kids (k := 1) (e := eS) (t := t)).symm
theorem EncN.eT : EncN 2 eT := fun x y => by
  rw [← EncN.tr EncN.eS x y]
  exact ⟨fun h j hj => by rw [← eT_tr x j hj, ← eT_tr y j hj]; exact h j hj, fun h j hj => by rw [eT_tr x j hj, eT_tr y j hj]; exact h j hj⟩
/-- The terms below a term. -/
def kidsT (t : Tm) : AV := .sl t.kids.length 2 (subT t)

def cT (l : List Tm) : Nat → Nat → AV := fun i j => eT (l.getD i dT) j
def terms (l : List Tm) : AV := .sl l.length 2 fun i j => eT (l.getD i dT) j
def arT (l : List Tm) : AObj := .arr l.length 2 fun i j => eT (l.getD i dT) j
theorem Enc.terms : Enc terms := Enc.sln (by decide) EncN.eT dT
@[simp] theorem Is_terms {x y : List Tm} : Is (terms x) (terms y) ↔ x = y := Enc.terms x y
@[simp] theorem IsO_terms {x y : List Tm} : IsO (arT x) (arT y) ↔ y = [] ∨ x = y := IsO_arn EncN.eT
@[simp] theorem IsO_terms0 {n : Nat} {c : Nat → Nat → AV} : IsO (.arr n 2 c) (arT []) := IsO_nil
@[simp] theorem terms_nil {q : Nat} {c : Nat → Nat → AV} {m : List Tm} : Is (.lit 0 q c) (terms m) ↔ m = [] := nil_sln
@[simp] theorem terms_nilA {m : List Tm} : Is nilA (terms m) ↔ m = [] := nil_sln
theorem terms_take {l m : List Tm} {n : Nat} (h : n ≤ l.length) : Is (.sl n 2 (cT l)) (terms m) ↔ l.take n = m := Is_take (by decide) EncN.eT h
theorem terms_drop {l m : List Tm} {n : Nat} : Is (.sl (l.length - n) 2 (fun i j => cT l (i + n) j)) (terms m) ↔ l.drop n = m := Is_drop (by decide) EncN.eT
theorem terms_mid {l m : List Tm} {a n : Nat} (h : a + n ≤ l.length) : Is (.sl n 2 (fun i j => cT l (i + a) j)) (terms m) ↔ (l.drop a).take n = m := Is_mid (by decide) EncN.eT h
@[simp] theorem terms_join {l m : List Tm} : IsO (.arr (l.length + m.length) 2 (joinC l.length (cT l) (cT m))) (arT (l ++ m)) := IsO_join EncN.eT (IsR_cel EncN.eT)
@[simp] theorem terms_join0 {m : List Tm} {c : Nat → Nat → AV} : IsO (.arr (0 + m.length) 2 (joinC 0 c (cT m))) (arT m) := IsO_join0 EncN.eT (IsR_cel EncN.eT)
@[simp] theorem terms_join0' {m : List Tm} {c : Nat → Nat → AV} : IsO (.arr m.length 2 (joinC 0 c (cT m))) (arT m) := IsO_join0 EncN.eT (IsR_cel EncN.eT)
@[simp] theorem Is_kidsT {t : Tm} {m : List Tm} : Is (kidsT t) (terms m) ↔ t.kids = m :=
  Is_sl_iff2 (d := dT) (by decide) (fun x _ y => EncN.eT x y) (fun i hi j hj => by rw [eT_tr _ j hj]; exact subTr_get dT t i hi j) (fun i _ j _ => rfl)
@[simp] theorem Is_terms_kidsT {t : Tm} {m : List Tm} : Is (terms m) (kidsT t) ↔ m = t.kids :=
  Is_sl_iff2 (d := dT) (by decide) (fun x _ y => EncN.eT x y) (fun i _ j _ => rfl) (fun i hi j hj => by rw [eT_tr _ j hj]; exact subTr_get dT t i hi j)
@[simp] theorem Is_kidsT2 {t u : Tm} : Is (kidsT t) (kidsT u) ↔ t.kids = u.kids :=
  Is_sl_iff2 (d := dT) (by decide) (fun x _ y => EncN.eT x y) (fun i hi j hj => by rw [eT_tr _ j hj]; exact subTr_get dT t i hi j) (fun i hi j hj => by rw [eT_tr _ j hj]; exact subTr_get dT u i hi j)
theorem Is_rowT {v : ByteArray} {a : AV} {ks : List Tm} (ha : Is a (terms ks)) : ∀ j, j < 2 → Is ([st v, a].getD j .any) (eT (.mk v ks) j) := fun j hj => by
  match j, hj with
  | 0, _ => exact (Enc.st v v).2 rfl
  | 1, _ =>
    exact Is_sl_cell (fun i hi j hj => by rw [eT_tr _ j hj]; exact (subTr_get dT (Tree.mk v ks) i hi j).symm) ha
theorem Is_rowK {v : ByteArray} {a : AV} {t : Tm} (hv : v = t.val) (ha : Is a (kidsT t)) : ∀ j, j < 2 → Is ([st v, a].getD j .any) (eT t j) := fun j hj => by
  match j, hj with
  | 0, _ => exact (Enc.st v t.val).2 hv
  | 1, _ => exact ha

def eY (x : Sym) (j : Nat) : AV := match j with
  | 0 => st x.1
  | 1 => ints x.2.1
  | _ => i64 x.2.2
theorem EncN.eY : EncN 3 eY := fun x y => by
  constructor
  · intro h
    have h0 : Is (st x.1) (st y.1) := h 0 (by decide)
    have h1 : Is (ints x.2.1) (ints y.2.1) := h 1 (by decide)
    have h2 : Is (i64 x.2.2) (i64 y.2.2) := h 2 (by decide)
    simp only [Is_i64, Is_u8, Is_bl, Is_st, Is_ints, Is_bools, Is_strs, Is_intss] at h0 h1 h2
    grind
  · rintro rfl j hj
    match j, hj with
    | 0, _ => show Is (st x.1) (st x.1); simp
    | 1, _ => show Is (ints x.2.1) (ints x.2.1); simp
    | 2, _ => show Is (i64 x.2.2) (i64 x.2.2); simp
def cY (l : List Sym) : Nat → Nat → AV := fun i j => eY (l.getD i dY) j
def syms (l : List Sym) : AV := .sl l.length 3 fun i j => eY (l.getD i dY) j
def arY (l : List Sym) : AObj := .arr l.length 3 fun i j => eY (l.getD i dY) j
theorem Enc.syms : Enc syms := Enc.sln (by decide) EncN.eY dY
@[simp] theorem Is_syms {x y : List Sym} : Is (syms x) (syms y) ↔ x = y := Enc.syms x y
@[simp] theorem IsO_syms {x y : List Sym} : IsO (arY x) (arY y) ↔ y = [] ∨ x = y := IsO_arn EncN.eY
@[simp] theorem IsO_syms0 {n : Nat} {c : Nat → Nat → AV} : IsO (.arr n 3 c) (arY []) := IsO_nil
@[simp] theorem syms_nil {q : Nat} {c : Nat → Nat → AV} {m : List Sym} : Is (.lit 0 q c) (syms m) ↔ m = [] := nil_sln
@[simp] theorem syms_nilA {m : List Sym} : Is nilA (syms m) ↔ m = [] := nil_sln
theorem syms_take {l m : List Sym} {n : Nat} (h : n ≤ l.length) : Is (.sl n 3 (cY l)) (syms m) ↔ l.take n = m := Is_take (by decide) EncN.eY h
theorem syms_drop {l m : List Sym} {n : Nat} : Is (.sl (l.length - n) 3 (fun i j => cY l (i + n) j)) (syms m) ↔ l.drop n = m := Is_drop (by decide) EncN.eY
theorem syms_mid {l m : List Sym} {a n : Nat} (h : a + n ≤ l.length) : Is (.sl n 3 (fun i j => cY l (i + a) j)) (syms m) ↔ (l.drop a).take n = m := Is_mid (by decide) EncN.eY h
@[simp] theorem syms_join {l m : List Sym} : IsO (.arr (l.length + m.length) 3 (joinC l.length (cY l) (cY m))) (arY (l ++ m)) := IsO_join EncN.eY (IsR_cel EncN.eY)
@[simp] theorem syms_join0 {m : List Sym} {c : Nat → Nat → AV} : IsO (.arr (0 + m.length) 3 (joinC 0 c (cY m))) (arY m) := IsO_join0 EncN.eY (IsR_cel EncN.eY)
@[simp] theorem syms_join0' {m : List Sym} {c : Nat → Nat → AV} : IsO (.arr m.length 3 (joinC 0 c (cY m))) (arY m) := IsO_join0 EncN.eY (IsR_cel EncN.eY)
theorem Is_rowY {a : ByteArray} {b : AV} {l : List Int} {c : Int} (hb : Is b (ints l)) : ∀ j, j < 3 → Is ([st a, b, i64 c].getD j .any) (eY (a, l, c) j) := fun j hj => by
  match j, hj with
  | 0, _ => exact (Enc.st a a).2 rfl
  | 1, _ => exact hb
  | 2, _ => exact (Enc.i64 c c).2 rfl
@[simp] theorem syms_set {l : List Sym} {i : Nat} {a : ByteArray} {b : List Int} {c : Int} : IsO (.arr l.length 3 (storeC (cY l) i 0 [st a, ints b, i64 c])) (arY (l.set i (a, b, c))) := IsO_set EncN.eY rfl (Is_rowY ((Enc.ints b b).2 rfl))
@[simp] theorem syms_make {n : Nat} : IsO (.arr n 3 (fun _ j => [st ByteArray.empty, nilA, i64 0].getD j .any)) (arY (List.replicate n dY)) := IsO_make EncN.eY (Is_rowY (ints_nilA.2 rfl))
@[simp] theorem terms_set {l : List Tm} {i : Nat} {a : ByteArray} {b : List Tm} : IsO (.arr l.length 2 (storeC (cT l) i 0 [st a, terms b])) (arT (l.set i (.mk a b))) := IsO_set EncN.eT rfl (Is_rowT ((Enc.terms b b).2 rfl))
@[simp] theorem terms_make {n : Nat} : IsO (.arr n 2 (fun _ j => [st ByteArray.empty, nilA].getD j .any)) (arT (List.replicate n dT)) := IsO_make EncN.eT (Is_rowT (terms_nilA.2 rfl))
theorem terms_row (a : ByteArray) (b : List Tm) : IsR 2 eT dT (rowsCell [[st a, terms b]]) [.mk a b] := IsR_row EncN.eT (Is_rowT ((Enc.terms b b).2 rfl))
@[simp] theorem terms_push {l : List Tm} {a : ByteArray} {b : List Tm} : IsO (.arr (l.length + 1) 2 (joinC l.length (cT l) (rowsCell [[st a, terms b]]))) (arT (l ++ [.mk a b])) := IsO_join EncN.eT (terms_row a b)
theorem syms_row (a : ByteArray) (b : List Int) (c : Int) : IsR 3 eY dY (rowsCell [[st a, ints b, i64 c]]) [(a, b, c)] := IsR_row EncN.eY (Is_rowY ((Enc.ints b b).2 rfl))
@[simp] theorem syms_push {l : List Sym} {a : ByteArray} {b : List Int} {c : Int} : IsO (.arr (l.length + 1) 3 (joinC l.length (cY l) (rowsCell [[st a, ints b, i64 c]]))) (arY (l ++ [(a, b, c)])) := IsO_join EncN.eY (syms_row a b c)
end Cg
