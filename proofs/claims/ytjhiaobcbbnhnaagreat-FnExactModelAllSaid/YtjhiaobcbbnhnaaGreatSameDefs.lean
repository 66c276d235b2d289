/-
  Atoms, formulas, explanations, cases: how they lie in cells; sizes, copies, equality. No condition.
-/
import Derived.Test.YtjhiaobcbbnhnaaGreatTsortDefs
import Derived.Test.YtjhiaobcbbnhnaaGreatCnfDefs
set_option linter.unusedVariables false
set_option linter.unusedSimpArgs false
namespace Pl
mutual
/-- What a tree costs, and trees, by what its things cost. -/
def costTr {α : Type} (f : α → Nat) : Tree α → Nat
  | .mk v ks => f v + ks.length + costTrs f ks
def costTrs {α : Type} (f : α → Nat) : List (Tree α) → Nat
  | [] => 0
  | t :: ts => costTr f t + costTrs f ts
end
/-- A thing that holds of all trees in a tree. -/
inductive AllTr {α : Type} (p : Tree α → Prop) : Tree α → Prop where
  | mk {t : Tree α} (h : p t) (hk : ∀ u ∈ t.kids, AllTr p u) : AllTr p t
section
variable {α : Type} {f : α → Nat}
theorem AllTr.here {p : Tree α → Prop} {t : Tree α} (h : AllTr p t) : p t := by cases h; assumption
theorem AllTr.kid {p : Tree α → Prop} {t u : Tree α} (h : AllTr p t) (hu : u ∈ t.kids) : AllTr p u := by cases h with | mk _ hk => exact hk u hu
theorem costTr_eq (t : Tree α) : costTr f t = f t.val + t.kids.length + costTrs f t.kids := by cases t; simp only [costTr, Tree.val, Tree.kids]
theorem costTr_mem {t : Tree α} : ∀ {l : List (Tree α)}, t ∈ l → costTr f t ≤ costTrs f l
  | u :: r, h => by
    unfold costTrs
    cases List.mem_cons.1 h with
    | inl e => subst e; omega
    | inr e => have := costTr_mem e; omega
theorem costTrs_snoc (l : List (Tree α)) (t : Tree α) : costTrs f (l ++ [t]) = costTrs f l + costTr f t := by
  induction l with
  | nil => simp [costTrs]
  | cons u r ih => simp only [List.cons_append, costTrs, ih]; omega
theorem costTrs_take (d : Tree α) {l : List (Tree α)} {k : Nat} (h : k < l.length) : costTrs f (l.take (k + 1)) = costTrs f (l.take k) + costTr f (l.getD k d) := by
  rw [List.take_succ_eq_append_getElem h, costTrs_snoc]; simp [h]
theorem costTrs_take_le (l : List (Tree α)) (k : Nat) : costTrs f (l.take k) ≤ costTrs f l := by
  induction l generalizing k with
  | nil => simp
  | cons x r ih =>
    cases k with
    | zero => simp [costTrs]
    | succ k => simp only [List.take_succ_cons, costTrs]; have := ih k; omega
theorem many_kids {l : List (Tree α)} {t : Tree α} (h : t ∈ l) : manyL t.kids < manyL l := by
  have := many_mem h
  have := t.many_eq
  omega
theorem tpart {t u : Tree α} {p : Prop} : (t.val = u.val → t.kids = u.kids → p) ↔ (t = u → p) := ⟨fun h e => h (by rw [e]) (by rw [e]), fun h e1 e2 => h (Tree.ext e1 e2)⟩
end
abbrev Atm := Int × TP × TP × List Tm × List Int × Int × Bool
abbrev Ltr := Atm × Bool
abbrev PF := Int × Ltr
abbrev Frm := Tree PF
abbrev FP := PF × List Frm
abbrev PW := Int × Int × TP
abbrev Wy := Tree PW
abbrev WP := PW × List Wy
abbrev PC := Int × Int × WP × List Int × TP × TP
abbrev Cse := Tree PC
abbrev CP := PC × List Cse
noncomputable instance instA : DecidableEq Atm := fun a b => Classical.propDecidable (a = b)
noncomputable instance instL : DecidableEq Ltr := fun a b => Classical.propDecidable (a = b)
noncomputable instance instPF : DecidableEq PF := fun a b => Classical.propDecidable (a = b)
noncomputable instance instFP : DecidableEq FP := fun a b => Classical.propDecidable (a = b)
noncomputable instance instWP : DecidableEq WP := fun a b => Classical.propDecidable (a = b)
noncomputable instance instPC : DecidableEq PC := fun a b => Classical.propDecidable (a = b)
noncomputable instance instCP : DecidableEq CP := fun a b => Classical.propDecidable (a = b)
def dPF : PF := (0, (0, (ByteArray.empty, []), (ByteArray.empty, []), [], [], 0, false), false)
def dF : Frm := .mk dPF []
def dPW : PW := (0, 0, ByteArray.empty, [])
def dW : Wy := .mk dPW []
def dPC : PC := (0, 0, (dPW, []), [], (ByteArray.empty, []), (ByteArray.empty, []))
def dC : Cse := .mk dPC []
def costA (x : Atm) : Nat := costT (.mk x.2.1.1 x.2.1.2) + costT (.mk x.2.2.1.1 x.2.2.1.2) + (x.2.2.2.1.length + costTs x.2.2.2.1) + x.2.2.2.2.1.length
def costL (x : Ltr) : Nat := costA x.1
def costPF (x : PF) : Nat := costL x.2
def costPW (x : PW) : Nat := costT (.mk x.2.2.1 x.2.2.2)
def costPC (x : PC) : Nat := costTr costPW (.mk x.2.2.1.1 x.2.2.1.2) + x.2.2.2.1.length + costT (.mk x.2.2.2.2.1.1 x.2.2.2.2.1.2) + costT (.mk x.2.2.2.2.2.1 x.2.2.2.2.2.2)
end Pl
namespace Cg
open Go Pl
def ePF (x : PF) (j : Nat) : AV := match j with
  | 0 => i64 x.1
  | 1 => i64 x.2.1.1
  | 2 => st x.2.1.2.1.1
  | 3 => terms x.2.1.2.1.2
  | 4 => st x.2.1.2.2.1.1
  | 5 => terms x.2.1.2.2.1.2
  | 6 => terms x.2.1.2.2.2.1
  | 7 => ints x.2.1.2.2.2.2.1
  | 8 => i64 x.2.1.2.2.2.2.2.1
  | 9 => bl x.2.1.2.2.2.2.2.2
  | _ => bl x.2.2
theorem EncN.ePF : EncN 11 ePF := fun x y => by
  constructor
  · intro h
    have h0 : Is (i64 x.1) (i64 y.1) := h 0 (by decide)
    have h1 : Is (i64 x.2.1.1) (i64 y.2.1.1) := h 1 (by decide)
    have h2 : Is (st x.2.1.2.1.1) (st y.2.1.2.1.1) := h 2 (by decide)
    have h3 : Is (terms x.2.1.2.1.2) (terms y.2.1.2.1.2) := h 3 (by decide)
    have h4 : Is (st x.2.1.2.2.1.1) (st y.2.1.2.2.1.1) := h 4 (by decide)
    have h5 : Is (terms x.2.1.2.2.1.2) (terms y.2.1.2.2.1.2) := h 5 (by decide)
    have h6 : Is (terms x.2.1.2.2.2.1) (terms y.2.1.2.2.2.1) := h 6 (by decide)
    have h7 : Is (ints x.2.1.2.2.2.2.1) (ints y.2.1.2.2.2.2.1) := h 7 (by decide)
    have h8 : Is (i64 x.2.1.2.2.2.2.2.1) (i64 y.2.1.2.2.2.2.2.1) := h 8 (by decide)
    have h9 : Is (bl x.2.1.2.2.2.2.2.2) (bl y.2.1.2.2.2.2.2.2) := h 9 (by decide)
    have h10 : Is (bl x.2.2) (bl y.2.2) := h 10 (by decide)
    simp only [Is_i64, Is_u8, Is_bl, Is_st, Is_ints, Is_bools, Is_strs, Is_intss, Is_terms] at h0 h1 h2 h3 h4 h5 h6 h7 h8 h9 h10
    grind
  · rintro rfl j hj
    match j, hj with
    | 0, _ => show Is (i64 x.1) (i64 x.1); simp
    | 1, _ => show Is (i64 x.2.1.1) (i64 x.2.1.1); simp
    | 2, _ => show Is (st x.2.1.2.1.1) (st x.2.1.2.1.1); simp
    | 3, _ => show Is (terms x.2.1.2.1.2) (terms x.2.1.2.1.2); simp
    | 4, _ => show Is (st x.2.1.2.2.1.1) (st x.2.1.2.2.1.1); simp
    | 5, _ => show Is (terms x.2.1.2.2.1.2) (terms x.2.1.2.2.1.2); simp
    | 6, _ => show Is (terms x.2.1.2.2.2.1) (terms x.2.1.2.2.2.1); simp
    | 7, _ => show Is (ints x.2.1.2.2.2.2.1) (ints x.2.1.2.2.2.2.1); simp
    | 8, _ => show Is (i64 x.2.1.2.2.2.2.2.1) (i64 x.2.1.2.2.2.2.2.1); simp
    | 9, _ => show Is (bl x.2.1.2.2.2.2.2.2) (bl x.2.1.2.2.2.2.2.2); simp
    | 10, _ => show Is (bl x.2.2) (bl x.2.2); simp
def subF (t : Frm) : Nat → Nat → AV := subTr 11 ePF t
def eF (t : Frm) (j : Nat) : AV := match j with
  | 0 => i64 t.val.1
  | 1 => i64 t.val.2.1.1
  | 2 => st t.val.2.1.2.1.1
  | 3 => terms t.val.2.1.2.1.2
  | 4 => st t.val.2.1.2.2.1.1
  | 5 => terms t.val.2.1.2.2.1.2
  | 6 => terms t.val.2.1.2.2.2.1
  | 7 => ints t.val.2.1.2.2.2.2.1
  | 8 => i64 t.val.2.1.2.2.2.2.2.1
  | 9 => bl t.val.2.1.2.2.2.2.2.2
  | 10 => bl t.val.2.2
  | _ => .sl t.kids.length 12 (subF t)
theorem eF_tr (t : Frm) : ∀ j, j < 12 → eF t j = eTr 11 ePF t j
  | 0, _ => (eTr_lt (k := 11) (e := ePF) (t := t) (j := 0) (by decide)).symm
  | 1, _ => (eTr_lt (k := 11) (e := ePF) (t := t) (j := 1) (by decide)).symm
  | 2, _ => (eTr_lt (k := 11) (e := ePF) (t := t) (j := 2) (by decide)).symm
  | 3, _ => (eTr_lt (k := 11) (e := ePF) (t := t) (j := 3) (by decide)).symm
  | 4, _ => (eTr_lt (k := 11) (e := ePF) (t := t) (j := 4) (by decide)).symm
  | 5, _ => (eTr_lt (k := 11) (e := ePF) (t := t) (j := 5) (by decide)).symm
  | 6, _ => (eTr_lt (k := 11) (e := ePF) (t := t) (j := 6) (by decide)).symm
  | 7, _ => (eTr_lt (k := 11) (e := ePF) (t := t) (j := 7) (by decide)).symm
  | 8, _ => (eTr_lt (k := 11) (e := ePF) (t := t) (j := 8) (by decide)).symm
  | 9, _ => (eTr_lt (k := 11) (e := ePF) (t := t) (j := 9) (by decide)).symm
  | 10, _ => (eTr_lt (k := 11) (e := ePF) (t := t) (j := 10) (by decide)).symm
  | 11, _ => (eTr_kids (k := 11) (e := ePF) (t := t)).symm
theorem EncN.eF : EncN 12 eF := fun x y => by
  rw [← EncN.tr EncN.ePF x y]
  exact ⟨fun h j hj => by rw [← eF_tr x j hj, ← eF_tr y j hj]; exact h j hj, fun h j hj => by rw [eF_tr x j hj, eF_tr y j hj]; exact h j hj⟩
def kidsF (t : Frm) : AV := .sl t.kids.length 12 (subF t)
def cF (l : List Frm) : Nat → Nat → AV := fun i j => eF (l.getD i dF) j
def forms (l : List Frm) : AV := .sl l.length 12 fun i j => eF (l.getD i dF) j
def arF (l : List Frm) : AObj := .arr l.length 12 fun i j => eF (l.getD i dF) j
theorem Enc.forms : Enc forms := Enc.sln (by decide) EncN.eF dF
@[simp] theorem Is_forms {x y : List Frm} : Is (forms x) (forms y) ↔ x = y := Enc.forms x y
@[simp] theorem IsO_forms {x y : List Frm} : IsO (arF x) (arF y) ↔ y = [] ∨ x = y := IsO_arn EncN.eF
@[simp] theorem IsO_forms0 {n : Nat} {c : Nat → Nat → AV} : IsO (.arr n 12 c) (arF []) := IsO_nil
@[simp] theorem forms_nil {q : Nat} {c : Nat → Nat → AV} {m : List Frm} : Is (.lit 0 q c) (forms m) ↔ m = [] := nil_sln
@[simp] theorem forms_nilA {m : List Frm} : Is nilA (forms m) ↔ m = [] := nil_sln
theorem forms_take {l m : List Frm} {n : Nat} (h : n ≤ l.length) : Is (.sl n 12 (cF l)) (forms m) ↔ l.take n = m := Is_take (by decide) EncN.eF h
theorem forms_drop {l m : List Frm} {n : Nat} : Is (.sl (l.length - n) 12 (fun i j => cF l (i + n) j)) (forms m) ↔ l.drop n = m := Is_drop (by decide) EncN.eF
theorem forms_mid {l m : List Frm} {a n : Nat} (h : a + n ≤ l.length) : Is (.sl n 12 (fun i j => cF l (i + a) j)) (forms m) ↔ (l.drop a).take n = m := Is_mid (by decide) EncN.eF h
@[simp] theorem forms_join {l m : List Frm} : IsO (.arr (l.length + m.length) 12 (joinC l.length (cF l) (cF m))) (arF (l ++ m)) := IsO_join EncN.eF (IsR_cel EncN.eF)
@[simp] theorem forms_join0 {m : List Frm} {c : Nat → Nat → AV} : IsO (.arr (0 + m.length) 12 (joinC 0 c (cF m))) (arF m) := IsO_join0 EncN.eF (IsR_cel EncN.eF)
@[simp] theorem forms_join0' {m : List Frm} {c : Nat → Nat → AV} : IsO (.arr m.length 12 (joinC 0 c (cF m))) (arF m) := IsO_join0 EncN.eF (IsR_cel EncN.eF)
@[simp] theorem Is_kidsF {t : Frm} {m : List Frm} : Is (kidsF t) (forms m) ↔ t.kids = m :=
  Is_sl_iff2 (d := dF) (by decide) (fun x _ y => EncN.eF x y) (fun i hi j hj => by rw [eF_tr _ j hj]; exact subTr_get dF t i hi j) (fun i _ j _ => rfl)
@[simp] theorem Is_forms_kidsF {t : Frm} {m : List Frm} : Is (forms m) (kidsF t) ↔ m = t.kids :=
  Is_sl_iff2 (d := dF) (by decide) (fun x _ y => EncN.eF x y) (fun i _ j _ => rfl) (fun i hi j hj => by rw [eF_tr _ j hj]; exact subTr_get dF t i hi j)
@[simp] theorem Is_kidsF2 {t u : Frm} : Is (kidsF t) (kidsF u) ↔ t.kids = u.kids :=
  Is_sl_iff2 (d := dF) (by decide) (fun x _ y => EncN.eF x y) (fun i hi j hj => by rw [eF_tr _ j hj]; exact subTr_get dF t i hi j) (fun i hi j hj => by rw [eF_tr _ j hj]; exact subTr_get dF u i hi j)
theorem Is_rowF {v : PF} {ks : List Frm} : ∀ j, j < 12 → Is ([i64 v.1, i64 v.2.1.1, st v.2.1.2.1.1, terms v.2.1.2.1.2, st v.2.1.2.2.1.1, terms v.2.1.2.2.1.2, terms v.2.1.2.2.2.1, ints v.2.1.2.2.2.2.1, i64 v.2.1.2.2.2.2.2.1, bl v.2.1.2.2.2.2.2.2, bl v.2.2, forms ks].getD j .any) (eF (.mk v ks) j) := fun j hj => by
  match j, hj with
  | 0, _ => exact (EncN.ePF v v).2 rfl 0 (by decide)
  | 1, _ => exact (EncN.ePF v v).2 rfl 1 (by decide)
  | 2, _ => exact (EncN.ePF v v).2 rfl 2 (by decide)
  | 3, _ => exact (EncN.ePF v v).2 rfl 3 (by decide)
  | 4, _ => exact (EncN.ePF v v).2 rfl 4 (by decide)
  | 5, _ => exact (EncN.ePF v v).2 rfl 5 (by decide)
  | 6, _ => exact (EncN.ePF v v).2 rfl 6 (by decide)
  | 7, _ => exact (EncN.ePF v v).2 rfl 7 (by decide)
  | 8, _ => exact (EncN.ePF v v).2 rfl 8 (by decide)
  | 9, _ => exact (EncN.ePF v v).2 rfl 9 (by decide)
  | 10, _ => exact (EncN.ePF v v).2 rfl 10 (by decide)
  | 11, _ => exact Is_sl_cell (fun i hi j hj => by rw [eF_tr _ j hj]; exact (subTr_get dF (Tree.mk v ks) i hi j).symm) ((Enc.forms ks ks).2 rfl)
theorem forms_set {l : List Frm} {i : Nat} {v : PF} {ks : List Frm} : IsO (.arr l.length 12 (storeC (cF l) i 0 [i64 v.1, i64 v.2.1.1, st v.2.1.2.1.1, terms v.2.1.2.1.2, st v.2.1.2.2.1.1, terms v.2.1.2.2.1.2, terms v.2.1.2.2.2.1, ints v.2.1.2.2.2.2.1, i64 v.2.1.2.2.2.2.2.1, bl v.2.1.2.2.2.2.2.2, bl v.2.2, forms ks])) (arF (l.set i (.mk v ks))) := IsO_set EncN.eF rfl Is_rowF
theorem forms_make {n : Nat} : IsO (.arr n 12 (fun _ j => [i64 0, i64 0, st ByteArray.empty, nilA, st ByteArray.empty, nilA, nilA, nilA, i64 0, bl false, bl false, nilA].getD j .any)) (arF (List.replicate n dF)) := IsO_make EncN.eF (fun j hj => by match j, hj with
    | 0, _ => exact (Enc.i64 0 0).2 rfl
    | 1, _ => exact (Enc.i64 0 0).2 rfl
    | 2, _ => exact (Enc.st _ _).2 rfl
    | 3, _ => exact terms_nilA.2 rfl
    | 4, _ => exact (Enc.st _ _).2 rfl
    | 5, _ => exact terms_nilA.2 rfl
    | 6, _ => exact terms_nilA.2 rfl
    | 7, _ => exact ints_nilA.2 rfl
    | 8, _ => exact (Enc.i64 0 0).2 rfl
    | 9, _ => exact (Enc.bl _ _).2 rfl
    | 10, _ => exact (Enc.bl _ _).2 rfl
    | 11, _ => exact Is_sl_cell (a := nilA) (fun i hi => by cases hi) (forms_nilA.2 rfl))
def ePW (x : PW) (j : Nat) : AV := match j with
  | 0 => i64 x.1
  | 1 => i64 x.2.1
  | 2 => st x.2.2.1
  | _ => terms x.2.2.2
theorem EncN.ePW : EncN 4 ePW := fun x y => by
  constructor
  · intro h
    have h0 : Is (i64 x.1) (i64 y.1) := h 0 (by decide)
    have h1 : Is (i64 x.2.1) (i64 y.2.1) := h 1 (by decide)
    have h2 : Is (st x.2.2.1) (st y.2.2.1) := h 2 (by decide)
    have h3 : Is (terms x.2.2.2) (terms y.2.2.2) := h 3 (by decide)
    simp only [Is_i64, Is_u8, Is_bl, Is_st, Is_ints, Is_bools, Is_strs, Is_intss, Is_terms] at h0 h1 h2 h3
    grind
  · rintro rfl j hj
    match j, hj with
    | 0, _ => show Is (i64 x.1) (i64 x.1); simp
    | 1, _ => show Is (i64 x.2.1) (i64 x.2.1); simp
    | 2, _ => show Is (st x.2.2.1) (st x.2.2.1); simp
    | 3, _ => show Is (terms x.2.2.2) (terms x.2.2.2); simp
def subW (t : Wy) : Nat → Nat → AV := subTr 4 ePW t
def eW (t : Wy) (j : Nat) : AV := match j with
  | 0 => i64 t.val.1
  | 1 => i64 t.val.2.1
  | 2 => st t.val.2.2.1
  | 3 => terms t.val.2.2.2
  | _ => .sl t.kids.length 5 (subW t)
theorem eW_tr (t : Wy) : ∀ j, j < 5 → eW t j = eTr 4 ePW t j
  | 0, _ => (eTr_lt (k := 4) (e := ePW) (t := t) (j := 0) (by decide)).symm
  | 1, _ => (eTr_lt (k := 4) (e := ePW) (t := t) (j := 1) (by decide)).symm
  | 2, _ => (eTr_lt (k := 4) (e := ePW) (t := t) (j := 2) (by decide)).symm
  | 3, _ => (eTr_lt (k := 4) (e := ePW) (t := t) (j := 3) (by decide)).symm
  | 4, _ => (eTr_kids (k := 4) (e := ePW) (t := t)).symm
theorem EncN.eW : EncN 5 eW := fun x y => by
  rw [← EncN.tr EncN.ePW x y]
  exact ⟨fun h j hj => by rw [← eW_tr x j hj, ← eW_tr y j hj]; exact h j hj, fun h j hj => by rw [eW_tr x j hj, eW_tr y j hj]; exact h j hj⟩
def kidsW (t : Wy) : AV := .sl t.kids.length 5 (subW t)
def cW (l : List Wy) : Nat → Nat → AV := fun i j => eW (l.getD i dW) j
def whys (l : List Wy) : AV := .sl l.length 5 fun i j => eW (l.getD i dW) j
def arW (l : List Wy) : AObj := .arr l.length 5 fun i j => eW (l.getD i dW) j
theorem Enc.whys : Enc whys := Enc.sln (by decide) EncN.eW dW
@[simp] theorem Is_whys {x y : List Wy} : Is (whys x) (whys y) ↔ x = y := Enc.whys x y
@[simp] theorem IsO_whys {x y : List Wy} : IsO (arW x) (arW y) ↔ y = [] ∨ x = y := IsO_arn EncN.eW
@[simp] theorem IsO_whys0 {n : Nat} {c : Nat → Nat → AV} : IsO (.arr n 5 c) (arW []) := IsO_nil
@[simp] theorem whys_nil {q : Nat} {c : Nat → Nat → AV} {m : List Wy} : Is (.lit 0 q c) (whys m) ↔ m = [] := nil_sln
@[simp] theorem whys_nilA {m : List Wy} : Is nilA (whys m) ↔ m = [] := nil_sln
theorem whys_take {l m : List Wy} {n : Nat} (h : n ≤ l.length) : Is (.sl n 5 (cW l)) (whys m) ↔ l.take n = m := Is_take (by decide) EncN.eW h
theorem whys_drop {l m : List Wy} {n : Nat} : Is (.sl (l.length - n) 5 (fun i j => cW l (i + n) j)) (whys m) ↔ l.drop n = m := Is_drop (by decide) EncN.eW
theorem whys_mid {l m : List Wy} {a n : Nat} (h : a + n ≤ l.length) : Is (.sl n 5 (fun i j => cW l (i + a) j)) (whys m) ↔ (l.drop a).take n = m := Is_mid (by decide) EncN.eW h
@[simp] theorem whys_join {l m : List Wy} : IsO (.arr (l.length + m.length) 5 (joinC l.length (cW l) (cW m))) (arW (l ++ m)) := IsO_join EncN.eW (IsR_cel EncN.eW)
@[simp] theorem whys_join0 {m : List Wy} {c : Nat → Nat → AV} : IsO (.arr (0 + m.length) 5 (joinC 0 c (cW m))) (arW m) := IsO_join0 EncN.eW (IsR_cel EncN.eW)
@[simp] theorem whys_join0' {m : List Wy} {c : Nat → Nat → AV} : IsO (.arr m.length 5 (joinC 0 c (cW m))) (arW m) := IsO_join0 EncN.eW (IsR_cel EncN.eW)
@[simp] theorem Is_kidsW {t : Wy} {m : List Wy} : Is (kidsW t) (whys m) ↔ t.kids = m :=
  Is_sl_iff2 (d := dW) (by decide) (fun x _ y => EncN.eW x y) (fun i hi j hj => by rw [eW_tr _ j hj]; exact subTr_get dW t i hi j) (fun i _ j _ => rfl)
@[simp] theorem Is_whys_kidsW {t : Wy} {m : List Wy} : Is (whys m) (kidsW t) ↔ m = t.kids :=
  Is_sl_iff2 (d := dW) (by decide) (fun x _ y => EncN.eW x y) (fun i _ j _ => rfl) (fun i hi j hj => by rw [eW_tr _ j hj]; exact subTr_get dW t i hi j)
@[simp] theorem Is_kidsW2 {t u : Wy} : Is (kidsW t) (kidsW u) ↔ t.kids = u.kids :=
  Is_sl_iff2 (d := dW) (by decide) (fun x _ y => EncN.eW x y) (fun i hi j hj => by rw [eW_tr _ j hj]; exact subTr_get dW t i hi j) (fun i hi j hj => by rw [eW_tr _ j hj]; exact subTr_get dW u i hi j)
theorem Is_rowW {v : PW} {ks : List Wy} : ∀ j, j < 5 → Is ([i64 v.1, i64 v.2.1, st v.2.2.1, terms v.2.2.2, whys ks].getD j .any) (eW (.mk v ks) j) := fun j hj => by
  match j, hj with
  | 0, _ => exact (EncN.ePW v v).2 rfl 0 (by decide)
  | 1, _ => exact (EncN.ePW v v).2 rfl 1 (by decide)
  | 2, _ => exact (EncN.ePW v v).2 rfl 2 (by decide)
  | 3, _ => exact (EncN.ePW v v).2 rfl 3 (by decide)
  | 4, _ => exact Is_sl_cell (fun i hi j hj => by rw [eW_tr _ j hj]; exact (subTr_get dW (Tree.mk v ks) i hi j).symm) ((Enc.whys ks ks).2 rfl)
theorem whys_set {l : List Wy} {i : Nat} {v : PW} {ks : List Wy} : IsO (.arr l.length 5 (storeC (cW l) i 0 [i64 v.1, i64 v.2.1, st v.2.2.1, terms v.2.2.2, whys ks])) (arW (l.set i (.mk v ks))) := IsO_set EncN.eW rfl Is_rowW
theorem whys_make {n : Nat} : IsO (.arr n 5 (fun _ j => [i64 0, i64 0, st ByteArray.empty, nilA, nilA].getD j .any)) (arW (List.replicate n dW)) := IsO_make EncN.eW (fun j hj => by match j, hj with
    | 0, _ => exact (Enc.i64 0 0).2 rfl
    | 1, _ => exact (Enc.i64 0 0).2 rfl
    | 2, _ => exact (Enc.st _ _).2 rfl
    | 3, _ => exact terms_nilA.2 rfl
    | 4, _ => exact Is_sl_cell (a := nilA) (fun i hi => by cases hi) (whys_nilA.2 rfl))
def ePC (x : PC) (j : Nat) : AV := match j with
  | 0 => i64 x.1
  | 1 => i64 x.2.1
  | 2 => i64 x.2.2.1.1.1
  | 3 => i64 x.2.2.1.1.2.1
  | 4 => st x.2.2.1.1.2.2.1
  | 5 => terms x.2.2.1.1.2.2.2
  | 6 => whys x.2.2.1.2
  | 7 => ints x.2.2.2.1
  | 8 => st x.2.2.2.2.1.1
  | 9 => terms x.2.2.2.2.1.2
  | 10 => st x.2.2.2.2.2.1
  | _ => terms x.2.2.2.2.2.2
theorem EncN.ePC : EncN 12 ePC := fun x y => by
  constructor
  · intro h
    have h0 : Is (i64 x.1) (i64 y.1) := h 0 (by decide)
    have h1 : Is (i64 x.2.1) (i64 y.2.1) := h 1 (by decide)
    have h2 : Is (i64 x.2.2.1.1.1) (i64 y.2.2.1.1.1) := h 2 (by decide)
    have h3 : Is (i64 x.2.2.1.1.2.1) (i64 y.2.2.1.1.2.1) := h 3 (by decide)
    have h4 : Is (st x.2.2.1.1.2.2.1) (st y.2.2.1.1.2.2.1) := h 4 (by decide)
    have h5 : Is (terms x.2.2.1.1.2.2.2) (terms y.2.2.1.1.2.2.2) := h 5 (by decide)
    have h6 : Is (whys x.2.2.1.2) (whys y.2.2.1.2) := h 6 (by decide)
    have h7 : Is (ints x.2.2.2.1) (ints y.2.2.2.1) := h 7 (by decide)
    have h8 : Is (st x.2.2.2.2.1.1) (st y.2.2.2.2.1.1) := h 8 (by decide)
    have h9 : Is (terms x.2.2.2.2.1.2) (terms y.2.2.2.2.1.2) := h 9 (by decide)
    have h10 : Is (st x.2.2.2.2.2.1) (st y.2.2.2.2.2.1) := h 10 (by decide)
    have h11 : Is (terms x.2.2.2.2.2.2) (terms y.2.2.2.2.2.2) := h 11 (by decide)
    simp only [Is_i64, Is_u8, Is_bl, Is_st, Is_ints, Is_bools, Is_strs, Is_intss, Is_terms, Is_whys] at h0 h1 h2 h3 h4 h5 h6 h7 h8 h9 h10 h11
    grind
  · rintro rfl j hj
    match j, hj with
    | 0, _ => show Is (i64 x.1) (i64 x.1); simp
    | 1, _ => show Is (i64 x.2.1) (i64 x.2.1); simp
    | 2, _ => show Is (i64 x.2.2.1.1.1) (i64 x.2.2.1.1.1); simp
    | 3, _ => show Is (i64 x.2.2.1.1.2.1) (i64 x.2.2.1.1.2.1); simp
    | 4, _ => show Is (st x.2.2.1.1.2.2.1) (st x.2.2.1.1.2.2.1); simp
    | 5, _ => show Is (terms x.2.2.1.1.2.2.2) (terms x.2.2.1.1.2.2.2); simp
    | 6, _ => show Is (whys x.2.2.1.2) (whys x.2.2.1.2); simp
    | 7, _ => show Is (ints x.2.2.2.1) (ints x.2.2.2.1); simp
    | 8, _ => show Is (st x.2.2.2.2.1.1) (st x.2.2.2.2.1.1); simp
    | 9, _ => show Is (terms x.2.2.2.2.1.2) (terms x.2.2.2.2.1.2); simp
    | 10, _ => show Is (st x.2.2.2.2.2.1) (st x.2.2.2.2.2.1); simp
    | 11, _ => show Is (terms x.2.2.2.2.2.2) (terms x.2.2.2.2.2.2); simp
def subC (t : Cse) : Nat → Nat → AV := subTr 12 ePC t
def eC (t : Cse) (j : Nat) : AV := match j with
  | 0 => i64 t.val.1
  | 1 => i64 t.val.2.1
  | 2 => i64 t.val.2.2.1.1.1
  | 3 => i64 t.val.2.2.1.1.2.1
  | 4 => st t.val.2.2.1.1.2.2.1
  | 5 => terms t.val.2.2.1.1.2.2.2
  | 6 => whys t.val.2.2.1.2
  | 7 => ints t.val.2.2.2.1
  | 8 => st t.val.2.2.2.2.1.1
  | 9 => terms t.val.2.2.2.2.1.2
  | 10 => st t.val.2.2.2.2.2.1
  | 11 => terms t.val.2.2.2.2.2.2
  | _ => .sl t.kids.length 13 (subC t)
theorem eC_tr (t : Cse) : ∀ j, j < 13 → eC t j = eTr 12 ePC t j
  | 0, _ => (eTr_lt (k := 12) (e := ePC) (t := t) (j := 0) (by decide)).symm
  | 1, _ => (eTr_lt (k := 12) (e := ePC) (t := t) (j := 1) (by decide)).symm
  | 2, _ => (eTr_lt (k := 12) (e := ePC) (t := t) (j := 2) (by decide)).symm
  | 3, _ => (eTr_lt (k := 12) (e := ePC) (t := t) (j := 3) (by decide)).symm
  | 4, _ => (eTr_lt (k := 12) (e := ePC) (t := t) (j := 4) (by decide)).symm
  | 5, _ => (eTr_lt (k := 12) (e := ePC) (t := t) (j := 5) (by decide)).symm
  | 6, _ => (eTr_lt (k := 12) (e := ePC) (t := t) (j := 6) (by decide)).symm
  | 7, _ => (eTr_lt (k := 12) (e := ePC) (t := t) (j := 7) (by decide)).symm
  | 8, _ => (eTr_lt (k := 12) (e := ePC) (t := t) (j := 8) (by decide)).symm
  | 9, _ => (eTr_lt (k := 12) (e := ePC) (t := t) (j := 9) (by decide)).symm
  | 10, _ => (eTr_lt (k := 12) (e := ePC) (t := t) (j := 10) (by decide)).symm
  | 11, _ => (eTr_lt (k := 12) (e := ePC) (t := t) (j := 11) (by decide)).symm
  | 12, _ => (eTr_kids (k := 12) (e := ePC) (t := t)).symm
theorem EncN.eC : EncN 13 eC := fun x y => by
  rw [← EncN.tr EncN.ePC x y]
  exact ⟨fun h j hj => by rw [← eC_tr x j hj, ← eC_tr y j hj]; exact h j hj, fun h j hj => by rw [eC_tr x j hj, eC_tr y j hj]; exact h j hj⟩
def kidsC (t : Cse) : AV := .sl t.kids.length 13 (subC t)
def cC (l : List Cse) : Nat → Nat → AV := fun i j => eC (l.getD i dC) j
def cases (l : List Cse) : AV := .sl l.length 13 fun i j => eC (l.getD i dC) j
def arC (l : List Cse) : AObj := .arr l.length 13 fun i j => eC (l.getD i dC) j
theorem Enc.cases : Enc cases := Enc.sln (by decide) EncN.eC dC
@[simp] theorem Is_cases {x y : List Cse} : Is (cases x) (cases y) ↔ x = y := Enc.cases x y
@[simp] theorem IsO_cases {x y : List Cse} : IsO (arC x) (arC y) ↔ y = [] ∨ x = y := IsO_arn EncN.eC
@[simp] theorem IsO_cases0 {n : Nat} {c : Nat → Nat → AV} : IsO (.arr n 13 c) (arC []) := IsO_nil
@[simp] theorem cases_nil {q : Nat} {c : Nat → Nat → AV} {m : List Cse} : Is (.lit 0 q c) (cases m) ↔ m = [] := nil_sln
@[simp] theorem cases_nilA {m : List Cse} : Is nilA (cases m) ↔ m = [] := nil_sln
theorem cases_take {l m : List Cse} {n : Nat} (h : n ≤ l.length) : Is (.sl n 13 (cC l)) (cases m) ↔ l.take n = m := Is_take (by decide) EncN.eC h
theorem cases_drop {l m : List Cse} {n : Nat} : Is (.sl (l.length - n) 13 (fun i j => cC l (i + n) j)) (cases m) ↔ l.drop n = m := Is_drop (by decide) EncN.eC
theorem cases_mid {l m : List Cse} {a n : Nat} (h : a + n ≤ l.length) : Is (.sl n 13 (fun i j => cC l (i + a) j)) (cases m) ↔ (l.drop a).take n = m := Is_mid (by decide) EncN.eC h
@[simp] theorem cases_join {l m : List Cse} : IsO (.arr (l.length + m.length) 13 (joinC l.length (cC l) (cC m))) (arC (l ++ m)) := IsO_join EncN.eC (IsR_cel EncN.eC)
@[simp] theorem cases_join0 {m : List Cse} {c : Nat → Nat → AV} : IsO (.arr (0 + m.length) 13 (joinC 0 c (cC m))) (arC m) := IsO_join0 EncN.eC (IsR_cel EncN.eC)
@[simp] theorem cases_join0' {m : List Cse} {c : Nat → Nat → AV} : IsO (.arr m.length 13 (joinC 0 c (cC m))) (arC m) := IsO_join0 EncN.eC (IsR_cel EncN.eC)
@[simp] theorem Is_kidsC {t : Cse} {m : List Cse} : Is (kidsC t) (cases m) ↔ t.kids = m :=
  Is_sl_iff2 (d := dC) (by decide) (fun x _ y => EncN.eC x y) (fun i hi j hj => by rw [eC_tr _ j hj]; exact subTr_get dC t i hi j) (fun i _ j _ => rfl)
@[simp] theorem Is_cases_kidsC {t : Cse} {m : List Cse} : Is (cases m) (kidsC t) ↔ m = t.kids :=
  Is_sl_iff2 (d := dC) (by decide) (fun x _ y => EncN.eC x y) (fun i _ j _ => rfl) (fun i hi j hj => by rw [eC_tr _ j hj]; exact subTr_get dC t i hi j)
@[simp] theorem Is_kidsC2 {t u : Cse} : Is (kidsC t) (kidsC u) ↔ t.kids = u.kids :=
  Is_sl_iff2 (d := dC) (by decide) (fun x _ y => EncN.eC x y) (fun i hi j hj => by rw [eC_tr _ j hj]; exact subTr_get dC t i hi j) (fun i hi j hj => by rw [eC_tr _ j hj]; exact subTr_get dC u i hi j)
theorem Is_rowC {v : PC} {ks : List Cse} : ∀ j, j < 13 → Is ([i64 v.1, i64 v.2.1, i64 v.2.2.1.1.1, i64 v.2.2.1.1.2.1, st v.2.2.1.1.2.2.1, terms v.2.2.1.1.2.2.2, whys v.2.2.1.2, ints v.2.2.2.1, st v.2.2.2.2.1.1, terms v.2.2.2.2.1.2, st v.2.2.2.2.2.1, terms v.2.2.2.2.2.2, cases ks].getD j .any) (eC (.mk v ks) j) := fun j hj => by
  match j, hj with
  | 0, _ => exact (EncN.ePC v v).2 rfl 0 (by decide)
  | 1, _ => exact (EncN.ePC v v).2 rfl 1 (by decide)
  | 2, _ => exact (EncN.ePC v v).2 rfl 2 (by decide)
  | 3, _ => exact (EncN.ePC v v).2 rfl 3 (by decide)
  | 4, _ => exact (EncN.ePC v v).2 rfl 4 (by decide)
  | 5, _ => exact (EncN.ePC v v).2 rfl 5 (by decide)
  | 6, _ => exact (EncN.ePC v v).2 rfl 6 (by decide)
  | 7, _ => exact (EncN.ePC v v).2 rfl 7 (by decide)
  | 8, _ => exact (EncN.ePC v v).2 rfl 8 (by decide)
  | 9, _ => exact (EncN.ePC v v).2 rfl 9 (by decide)
  | 10, _ => exact (EncN.ePC v v).2 rfl 10 (by decide)
  | 11, _ => exact (EncN.ePC v v).2 rfl 11 (by decide)
  | 12, _ => exact Is_sl_cell (fun i hi j hj => by rw [eC_tr _ j hj]; exact (subTr_get dC (Tree.mk v ks) i hi j).symm) ((Enc.cases ks ks).2 rfl)
theorem cases_set {l : List Cse} {i : Nat} {v : PC} {ks : List Cse} : IsO (.arr l.length 13 (storeC (cC l) i 0 [i64 v.1, i64 v.2.1, i64 v.2.2.1.1.1, i64 v.2.2.1.1.2.1, st v.2.2.1.1.2.2.1, terms v.2.2.1.1.2.2.2, whys v.2.2.1.2, ints v.2.2.2.1, st v.2.2.2.2.1.1, terms v.2.2.2.2.1.2, st v.2.2.2.2.2.1, terms v.2.2.2.2.2.2, cases ks])) (arC (l.set i (.mk v ks))) := IsO_set EncN.eC rfl Is_rowC
theorem cases_make {n : Nat} : IsO (.arr n 13 (fun _ j => [i64 0, i64 0, i64 0, i64 0, st ByteArray.empty, nilA, nilA, nilA, st ByteArray.empty, nilA, st ByteArray.empty, nilA, nilA].getD j .any)) (arC (List.replicate n dC)) := IsO_make EncN.eC (fun j hj => by match j, hj with
    | 0, _ => exact (Enc.i64 0 0).2 rfl
    | 1, _ => exact (Enc.i64 0 0).2 rfl
    | 2, _ => exact (Enc.i64 0 0).2 rfl
    | 3, _ => exact (Enc.i64 0 0).2 rfl
    | 4, _ => exact (Enc.st _ _).2 rfl
    | 5, _ => exact terms_nilA.2 rfl
    | 6, _ => exact whys_nilA.2 rfl
    | 7, _ => exact ints_nilA.2 rfl
    | 8, _ => exact (Enc.st _ _).2 rfl
    | 9, _ => exact terms_nilA.2 rfl
    | 10, _ => exact (Enc.st _ _).2 rfl
    | 11, _ => exact terms_nilA.2 rfl
    | 12, _ => exact Is_sl_cell (a := nilA) (fun i hi => by cases hi) (cases_nilA.2 rfl))
def atomA (x : Atm) : AV := .agg [i64 x.1, st x.2.1.1, terms x.2.1.2, st x.2.2.1.1, terms x.2.2.1.2, terms x.2.2.2.1, ints x.2.2.2.2.1, i64 x.2.2.2.2.2.1, bl x.2.2.2.2.2.2]
def litA (x : Ltr) : AV := .agg [i64 x.1.1, st x.1.2.1.1, terms x.1.2.1.2, st x.1.2.2.1.1, terms x.1.2.2.1.2, terms x.1.2.2.2.1, ints x.1.2.2.2.2.1, i64 x.1.2.2.2.2.2.1, bl x.1.2.2.2.2.2.2, bl x.2]
def formA (x : FP) : AV := .agg [i64 x.1.1, i64 x.1.2.1.1, st x.1.2.1.2.1.1, terms x.1.2.1.2.1.2, st x.1.2.1.2.2.1.1, terms x.1.2.1.2.2.1.2, terms x.1.2.1.2.2.2.1, ints x.1.2.1.2.2.2.2.1, i64 x.1.2.1.2.2.2.2.2.1, bl x.1.2.1.2.2.2.2.2.2, bl x.1.2.2, forms x.2]
def whyA (x : WP) : AV := .agg [i64 x.1.1, i64 x.1.2.1, st x.1.2.2.1, terms x.1.2.2.2, whys x.2]
def caseA (x : CP) : AV := .agg [i64 x.1.1, i64 x.1.2.1, i64 x.1.2.2.1.1.1, i64 x.1.2.2.1.1.2.1, st x.1.2.2.1.1.2.2.1, terms x.1.2.2.1.1.2.2.2, whys x.1.2.2.1.2, ints x.1.2.2.2.1, st x.1.2.2.2.2.1.1, terms x.1.2.2.2.2.1.2, st x.1.2.2.2.2.2.1, terms x.1.2.2.2.2.2.2, cases x.2]
abbrev MlA (x : Atm) : Prop := MlT (.mk x.2.1.1 x.2.1.2) ∧ MlT (.mk x.2.2.1.1 x.2.2.1.2) ∧ (Ml x.2.2.2.1 ∧ ∀ t ∈ x.2.2.2.1, MlT t) ∧ Ml x.2.2.2.2.1
abbrev MlF (t : Frm) : Prop := AllTr (fun u => MlA u.val.2.1 ∧ Ml u.kids) t
abbrev MlW (t : Wy) : Prop := AllTr (fun u => MlT (.mk u.val.2.2.1 u.val.2.2.2) ∧ Ml u.kids) t
abbrev MlC (t : Cse) : Prop := AllTr (fun u => MlW (.mk u.val.2.2.1.1 u.val.2.2.1.2) ∧ Ml u.val.2.2.2.1 ∧ MlT (.mk u.val.2.2.2.2.1.1 u.val.2.2.2.2.1.2) ∧ MlT (.mk u.val.2.2.2.2.2.1 u.val.2.2.2.2.2.2) ∧ Ml u.kids) t
abbrev SmA (x : Atm) : Prop := costA x ≤ 1048576
abbrev SmTr {α : Type} (f : α → Nat) (t : Tree α) : Prop := costTr f t ≤ 1048576
abbrev SmTrs {α : Type} (f : α → Nat) (l : List (Tree α)) : Prop := l.length + costTrs f l ≤ 1048576
def K_szAtom : Nat × Contract := (Nm.laws_szAtom, .sc (Atm × Int) (fun x => [atomA x.1, i64 x.2]) (fun x => MlA x.1 ∧ Fu x.2) fun x => i64 (lim (x.2 - costA x.1)))
def K_szLit : Nat × Contract := (Nm.laws_szLit, .sc (Ltr × Int) (fun x => [litA x.1, i64 x.2]) (fun x => MlA x.1.1 ∧ Fu x.2) fun x => i64 (lim (x.2 - costL x.1)))
def K_toAtom : Nat × Contract := (Nm.laws_toAtom, .im Atm (fun x => [atomA x]) SmA atomA)
def K_toLit : Nat × Contract := (Nm.laws_toLit, .im Ltr (fun x => [litA x]) (fun x => SmA x.1) litA)
noncomputable def K_eqAtom : Nat × Contract := (Nm.laws_eqAtom, .sc (Atm × Atm) (fun x => [atomA x.1, atomA x.2]) (fun x => SmA x.1) fun x => bl (decide (x.1 = x.2)))
noncomputable def K_eqLit : Nat × Contract := (Nm.laws_eqLit, .sc (Ltr × Ltr) (fun x => [litA x.1, litA x.2]) (fun x => SmA x.1.1) fun x => bl (decide (x.1 = x.2)))
def A_sTSame (a b : TP) : List Ann :=
  [.mk Nat (fun x => x ≤ a.2.length ∧ a.2.length = b.2.length ∧ a.1 = b.1 ∧ (a.2 = b.2 ↔ a.2.drop x = b.2.drop x)) (fun x => { fr := pad [.any, .any, .ptr 0 0, .ptr 1 0, .any, i64 x] 39, H := [.var [st a.1, terms a.2], .var [st b.1, terms b.2]] }) (fun x => a.2.length - x) (fun _ => [])]
def A_sAtomSame (a b : Atm) : List Ann :=
  [.mk Nat (fun x => x ≤ a.2.2.2.1.length ∧ a.2.2.2.1.length = b.2.2.2.1.length ∧ (a = b ↔ a.2.2.2.2.1 = b.2.2.2.2.1 ∧ a.2.2.2.1.drop x = b.2.2.2.1.drop x) ∧ a.2.2.2.2.1.length = b.2.2.2.2.1.length) (fun x => { fr := pad [.any, .any, .ptr 0 0, .ptr 1 0, .any, i64 x] 97, H := [.var [i64 a.1, st a.2.1.1, terms a.2.1.2, st a.2.2.1.1, terms a.2.2.1.2, terms a.2.2.2.1, ints a.2.2.2.2.1, i64 a.2.2.2.2.2.1, bl a.2.2.2.2.2.2], .var [i64 b.1, st b.2.1.1, terms b.2.1.2, st b.2.2.1.1, terms b.2.2.1.2, terms b.2.2.2.1, ints b.2.2.2.2.1, i64 b.2.2.2.2.2.1, bl b.2.2.2.2.2.2]] }) (fun x => a.2.2.2.1.length - x) (fun _ => []),
   .mk Nat (fun x => x ≤ a.2.2.2.2.1.length ∧ a.2.2.2.2.1.length = b.2.2.2.2.1.length ∧ (a = b ↔ a.2.2.2.2.1.drop x = b.2.2.2.2.1.drop x)) (fun x => { fr := pad [.any, .any, .ptr 0 0, .ptr 1 0, .any, .any, i64 x] 97, H := [.var [i64 a.1, st a.2.1.1, terms a.2.1.2, st a.2.2.1.1, terms a.2.2.1.2, terms a.2.2.2.1, ints a.2.2.2.2.1, i64 a.2.2.2.2.2.1, bl a.2.2.2.2.2.2], .var [i64 b.1, st b.2.1.1, terms b.2.1.2, st b.2.2.1.1, terms b.2.2.1.2, terms b.2.2.2.1, ints b.2.2.2.2.1, i64 b.2.2.2.2.2.1, bl b.2.2.2.2.2.2]] }) (fun x => a.2.2.2.2.1.length - x) (fun _ => [])]
def A_szWhyS (l : List Wy) (k : Int) : List Ann :=
  [.mk Nat (fun x => x ≤ l.length ∧ 0 ≤ k - l.length - costTrs costPW (l.take x)) (fun x => { fr := pad [whys l, i64 (k - l.length - costTrs costPW (l.take x)), .any, .any, .any, i64 x] 27, H := [] }) (fun x => l.length - x) (fun _ => [])]
def A_toWhyS (l : List Wy) : List Ann :=
  [.mk (Nat × List Wy) (fun x => x.1 ≤ l.length ∧ x.2.length = l.length ∧ x.2.take x.1 = l.take x.1) (fun x => { fr := pad [whys l, .any, .any, .osl 0 0 x.2.length, i64 x.1] 23, H := [arW x.2] }) (fun x => l.length - x.1) (fun _ => [])]
def A_eqWhyS (l m : List Wy) : List Ann :=
  [.mk Nat (fun x => x ≤ l.length ∧ l.length = m.length ∧ (l = m ↔ l.drop x = m.drop x)) (fun x => { fr := pad [whys l, whys m, .any, .any, .any, i64 x] 27, H := [] }) (fun x => l.length - x) (fun _ => [])]
def A_sWhySame (a b : WP) : List Ann :=
  [.mk Nat (fun x => x ≤ a.2.length ∧ a.2.length = b.2.length ∧ a.1 = b.1 ∧ (a.2 = b.2 ↔ a.2.drop x = b.2.drop x)) (fun x => { fr := pad [.any, .any, .ptr 0 0, .ptr 1 0, .any, i64 x] 54, H := [.var [i64 a.1.1, i64 a.1.2.1, st a.1.2.2.1, terms a.1.2.2.2, whys a.2], .var [i64 b.1.1, i64 b.1.2.1, st b.1.2.2.1, terms b.1.2.2.2, whys b.2]] }) (fun x => a.2.length - x) (fun _ => [])]
def A_szFormS (l : List Frm) (k : Int) : List Ann :=
  [.mk Nat (fun x => x ≤ l.length ∧ 0 ≤ k - l.length - costTrs costPF (l.take x)) (fun x => { fr := pad [forms l, i64 (k - l.length - costTrs costPF (l.take x)), .any, .any, .any, i64 x] 27, H := [] }) (fun x => l.length - x) (fun _ => [])]
def A_toFormS (l : List Frm) : List Ann :=
  [.mk (Nat × List Frm) (fun x => x.1 ≤ l.length ∧ x.2.length = l.length ∧ x.2.take x.1 = l.take x.1) (fun x => { fr := pad [forms l, .any, .any, .osl 0 0 x.2.length, i64 x.1] 23, H := [arF x.2] }) (fun x => l.length - x.1) (fun _ => [])]
def A_eqFormS (l m : List Frm) : List Ann :=
  [.mk Nat (fun x => x ≤ l.length ∧ l.length = m.length ∧ (l = m ↔ l.drop x = m.drop x)) (fun x => { fr := pad [forms l, forms m, .any, .any, .any, i64 x] 27, H := [] }) (fun x => l.length - x) (fun _ => [])]
def A_sFormSame (a b : FP) : List Ann :=
  [.mk Nat (fun x => x ≤ a.2.length ∧ a.2.length = b.2.length ∧ a.1 = b.1 ∧ (a.2 = b.2 ↔ a.2.drop x = b.2.drop x)) (fun x => { fr := pad [.any, .any, .ptr 0 0, .ptr 1 0, .any, i64 x] 58, H := [.var [i64 a.1.1, i64 a.1.2.1.1, st a.1.2.1.2.1.1, terms a.1.2.1.2.1.2, st a.1.2.1.2.2.1.1, terms a.1.2.1.2.2.1.2, terms a.1.2.1.2.2.2.1, ints a.1.2.1.2.2.2.2.1, i64 a.1.2.1.2.2.2.2.2.1, bl a.1.2.1.2.2.2.2.2.2, bl a.1.2.2, forms a.2], .var [i64 b.1.1, i64 b.1.2.1.1, st b.1.2.1.2.1.1, terms b.1.2.1.2.1.2, st b.1.2.1.2.2.1.1, terms b.1.2.1.2.2.1.2, terms b.1.2.1.2.2.2.1, ints b.1.2.1.2.2.2.2.1, i64 b.1.2.1.2.2.2.2.2.1, bl b.1.2.1.2.2.2.2.2.2, bl b.1.2.2, forms b.2]] }) (fun x => a.2.length - x) (fun _ => [])]
def A_szCaseS (l : List Cse) (k : Int) : List Ann :=
  [.mk Nat (fun x => x ≤ l.length ∧ 0 ≤ k - l.length - costTrs costPC (l.take x)) (fun x => { fr := pad [cases l, i64 (k - l.length - costTrs costPC (l.take x)), .any, .any, .any, i64 x] 27, H := [] }) (fun x => l.length - x) (fun _ => [])]
def A_toCaseS (l : List Cse) : List Ann :=
  [.mk (Nat × List Cse) (fun x => x.1 ≤ l.length ∧ x.2.length = l.length ∧ x.2.take x.1 = l.take x.1) (fun x => { fr := pad [cases l, .any, .any, .osl 0 0 x.2.length, i64 x.1] 23, H := [arC x.2] }) (fun x => l.length - x.1) (fun _ => [])]
def A_eqCaseS (l m : List Cse) : List Ann :=
  [.mk Nat (fun x => x ≤ l.length ∧ l.length = m.length ∧ (l = m ↔ l.drop x = m.drop x)) (fun x => { fr := pad [cases l, cases m, .any, .any, .any, i64 x] 27, H := [] }) (fun x => l.length - x) (fun _ => [])]
def A_sCaseSame (a b : CP) : List Ann :=
  [.mk Nat (fun x => x ≤ a.2.length ∧ a.2.length = b.2.length ∧ a.1 = b.1 ∧ (a.2 = b.2 ↔ a.2.drop x = b.2.drop x)) (fun x => { fr := pad [.any, .any, .ptr 0 0, .ptr 1 0, .any, i64 x] 78, H := [.var [i64 a.1.1, i64 a.1.2.1, i64 a.1.2.2.1.1.1, i64 a.1.2.2.1.1.2.1, st a.1.2.2.1.1.2.2.1, terms a.1.2.2.1.1.2.2.2, whys a.1.2.2.1.2, ints a.1.2.2.2.1, st a.1.2.2.2.2.1.1, terms a.1.2.2.2.2.1.2, st a.1.2.2.2.2.2.1, terms a.1.2.2.2.2.2.2, cases a.2], .var [i64 b.1.1, i64 b.1.2.1, i64 b.1.2.2.1.1.1, i64 b.1.2.2.1.1.2.1, st b.1.2.2.1.1.2.2.1, terms b.1.2.2.1.1.2.2.2, whys b.1.2.2.1.2, ints b.1.2.2.2.1, st b.1.2.2.2.2.1.1, terms b.1.2.2.2.2.1.2, st b.1.2.2.2.2.2.1, terms b.1.2.2.2.2.2.2, cases b.2]] }) (fun x => a.2.length - x) (fun _ => [])]
end Cg
