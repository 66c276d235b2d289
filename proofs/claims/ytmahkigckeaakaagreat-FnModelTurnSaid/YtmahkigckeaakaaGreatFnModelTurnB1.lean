/-
  What the law leans on, part 1. No condition.
-/
import Derived.Test.YtmahkigckeaakaaGreatTool
import Derived.Test.YtmahkigckeaakaaGreatProg
/-
  The numbers of the functions, by name. No condition.
-/
namespace Nm
def laws_FnModelNone : Nat := 3
def laws_FnModelLoose : Nat := 4
def laws_FnModelTurn : Nat := 5
def laws_FnModelAll : Nat := 6
def laws_FnModelBent : Nat := 7
def spec_DrawModelTerm : Nat := 8
def impl_ModelTerm : Nat := 9
def spec_ModelTerm : Nat := 10
def impl_ModelLit : Nat := 11
def spec_DrawModelLit : Nat := 12
def spec_ModelLit : Nat := 13
def spec_DrawModelAll : Nat := 14
def impl_ModelAll : Nat := 15
def spec_ModelAll : Nat := 16
def impl_ModelOk : Nat := 17
def spec_ModelOk : Nat := 18
def spec_l16Open : Nat := 19
def spec_l4Sig : Nat := 20
def spec_l7Some : Nat := 21
def spec_l4Some : Nat := 22
def impl_TermSort : Nat := 23
def impl_Model_value : Nat := 24
def spec_TermSort : Nat := 25
def spec_l7Term : Nat := 26
def impl_AtomOk : Nat := 27
def impl_Model_atom : Nat := 28
def spec_l6Some : Nat := 29
def spec_l16Rd_pick : Nat := 30
def spec_AtomOk : Nat := 31
def spec_l7Sum : Nat := 32
def spec_RatLess : Nat := 33
def spec_l6Lit : Nat := 34
def spec_LitNot : Nat := 35
def impl_SigOk : Nat := 36
def impl_Model_ok : Nat := 37
def impl_Sig_symbol : Nat := 38
def impl_suits : Nat := 39
def spec_SigOk : Nat := 40
def spec_l7Right : Nat := 41
def spec_l4Find : Nat := 42
def spec_l7Fit : Nat := 43
def spec_l4Base : Nat := 44
def spec_l16Rd_num : Nat := 45
def spec_l7Any : Nat := 46
def spec_l16Rd_rat : Nat := 47
def spec_l16Rd_of : Nat := 48
def spec_l4Any : Nat := 49
def spec_l4Copy : Nat := 50
def impl_isTerm : Nat := 51
def impl_Sig_sortOf : Nat := 52
def slices_BinarySearchFunc_Simpl_Row_impl_Row_impl_Row : Nat := 53
def impl_compareRows : Nat := 54
def impl_whole : Nat := 55
def spec_l4Right : Nat := 56
def spec_l4Of : Nat := 57
def spec_l7Look : Nat := 58
def impl_Atom_ok : Nat := 59
def impl_Eq_sorted : Nat := 60
def slices_ContainsFunc_Simpl_Term_impl_Term : Nat := 61
def impl_AtomOk_1 : Nat := 62
def impl_isNumber : Nat := 63
def impl_plus : Nat := 64
def impl_below : Nat := 65
def spec_l6Any : Nat := 66
def spec_l6Right : Nat := 67
def spec_RatMul : Nat := 68
def spec_RatAdd : Nat := 69
def spec_RatOk : Nat := 70
def spec_l6Copy : Nat := 71
def impl_Sym_ok : Nat := 72
def impl_Row_ok : Nat := 73
def spec_NameOk : Nat := 74
def spec_l4Sort : Nat := 75
def spec_l7Row : Nat := 76
def spec_l7Less : Nat := 77
def spec_l7Value : Nat := 78
def spec_l7Put : Nat := 79
def impl_termSize : Nat := 80
def cmp_Or_int : Nat := 81
def cmp_Compare_string : Nat := 82
def cmp_Compare_int : Nat := 83
def slices_CompareFunc_Simpl_Rat_Simpl_Rat_impl_Rat_impl_Rat : Nat := 84
def impl_compareRats : Nat := 85
def spec_l4Shape : Nat := 86
def spec_l4Many : Nat := 87
def spec_l7Rats : Nat := 88
def impl_isNone : Nat := 89
def impl_within : Nat := 90
def impl_termText : Nat := 91
def slices_IndexFunc_Simpl_Term_impl_Term : Nat := 92
def impl_RatMul : Nat := 93
def impl_RatAdd : Nat := 94
def impl_RatLess : Nat := 95
def spec_l6Put : Nat := 96
def spec_l6Sum : Nat := 97
def spec_l1Least : Nat := 98
def spec_l1Abs : Nat := 99
def spec_l1Gcd : Nat := 100
def impl_NameOk : Nat := 101
def impl_isSort : Nat := 102
def slices_ContainsFunc_Sint_int : Nat := 103
def impl_Sym_ok_1 : Nat := 104
def impl_RatOk : Nat := 105
def slices_ContainsFunc_Simpl_Rat_impl_Rat : Nat := 106
def impl_Row_ok_1 : Nat := 107
def spec_RatOf : Nat := 108
def cmp_isNaN_string : Nat := 109
def cmp_isNaN_int : Nat := 110
def strings_Join : Nat := 111
def impl_ratOf : Nat := 112
def spec_l4Text : Nat := 113
def spec_l6None : Nat := 114
def slices_IndexFunc_Sint_int : Nat := 115
def impl_gcd : Nat := 116
def slices_IndexFunc_Simpl_Rat_impl_Rat : Nat := 117
def strings_Builder_Grow : Nat := 118
def strings_Builder_WriteString : Nat := 119
def strings_Builder_String : Nat := 120
def strings_Builder_copyCheck : Nat := 121
def strings_Builder_grow : Nat := 122
def internal_abi_NoEscape : Nat := 123
def internal_bytealg_MakeNoZero : Nat := 124
def internal_abi_Type_Align : Nat := 137
def internal_runtime_maps_unhashableTypeError_Error : Nat := 138
def internal_runtime_maps_unhashableTypeError_RuntimeError : Nat := 139
def impl_Sig_own : Nat := 140
def impl_Term_own : Nat := 141
def spec_l16Rd_word : Nat := 142
def strings_Builder_Reset : Nat := 143
def internal_abi_Kind_String : Nat := 144
end Nm

/-
  Trees: a thing and the trees below it, and how they lie in cells. No condition.
-/
set_option linter.unusedVariables false
set_option linter.unusedSimpArgs false
namespace Pl
inductive Tree (α : Type) where
  | mk (v : α) (ks : List (Tree α))
def Tree.val {α : Type} : Tree α → α
  | .mk v _ => v
def Tree.kids {α : Type} : Tree α → List (Tree α)
  | .mk _ ks => ks
@[simp] theorem Tree.eta {α : Type} (t : Tree α) : Tree.mk t.val t.kids = t := by cases t; rfl
@[simp] theorem Tree.val_mk {α : Type} (v : α) (ks : List (Tree α)) : (Tree.mk v ks).val = v := rfl
@[simp] theorem Tree.kids_mk {α : Type} (v : α) (ks : List (Tree α)) : (Tree.mk v ks).kids = ks := rfl
theorem Tree.ext {α : Type} {t u : Tree α} (h1 : t.val = u.val) (h2 : t.kids = u.kids) : t = u := by cases t; cases u; simp_all
noncomputable instance {α : Type} : DecidableEq (Tree α) := fun a b => Classical.propDecidable (a = b)
mutual
/-- How many there are in a tree, and in trees. -/
def Tree.many {α : Type} : Tree α → Nat
  | .mk _ ks => 1 + manyL ks
def manyL {α : Type} : List (Tree α) → Nat
  | [] => 0
  | t :: ts => t.many + manyL ts
end
theorem Tree.many_eq {α : Type} (t : Tree α) : t.many = 1 + manyL t.kids := by
  cases t with
  | mk v ks => simp only [Tree.many, Tree.kids]
theorem many_mem {α : Type} {t : Tree α} : ∀ {l : List (Tree α)}, t ∈ l → t.many ≤ manyL l
  | u :: r, h => by
    unfold manyL
    cases List.mem_cons.1 h with
    | inl e => subst e; omega
    | inr e => have := many_mem e; omega
theorem Tree.many_kid {α : Type} {t u : Tree α} (h : u ∈ t.kids) : u.many < t.many := by
  have := many_mem h
  rw [t.many_eq]; omega
theorem Tree.many_pos {α : Type} (t : Tree α) : 0 < t.many := by rw [t.many_eq]; omega
end Pl
namespace Cg
open Go Pl
mutual
def subTr {α : Type} (k : Nat) (e : α → Nat → AV) : Tree α → Nat → Nat → AV
  | .mk _ ks => rowsTr k e ks
def rowsTr {α : Type} (k : Nat) (e : α → Nat → AV) : List (Tree α) → Nat → Nat → AV
  | [] => fun _ _ => .any
  | t :: ts => fun i j => match i with
    | 0 => bif Nat.blt j k then e t.val j else .sl t.kids.length (k + 1) (subTr k e t)
    | i + 1 => rowsTr k e ts i j
end
/-- A tree's cells: those of its thing, and the trees below. -/
def eTr {α : Type} (k : Nat) (e : α → Nat → AV) (t : Tree α) (j : Nat) : AV := bif Nat.blt j k then e t.val j else .sl t.kids.length (k + 1) (subTr k e t)
section
variable {α : Type} {k : Nat} {e : α → Nat → AV}
theorem rowsTr_get (d : Tree α) : ∀ (l : List (Tree α)) (i : Nat), i < l.length → ∀ j, rowsTr k e l i j = eTr k e (l.getD i d) j
  | [], i, h, j => by cases h
  | t :: ts, 0, h, j => by simp only [rowsTr, eTr]; rfl
  | t :: ts, i + 1, h, j => by
    have := rowsTr_get d ts i (by simpa using h) j
    simp only [rowsTr, this, List.getD_cons_succ]
theorem subTr_get (d : Tree α) (t : Tree α) (i : Nat) (h : i < t.kids.length) (j : Nat) : subTr k e t i j = eTr k e (t.kids.getD i d) j := by
  cases t with
  | mk v ks => simp only [subTr]; exact rowsTr_get d ks i h j
theorem Is_sl_iff2 {β : Type} {q : Nat} {f : β → Nat → AV} {d : β} (hq : 0 < q) {l m : List β} (he : ∀ x ∈ l, ∀ y, (∀ j, j < q → Is (f x j) (f y j)) ↔ x = y) {c c' : Nat → Nat → AV} (hc : ∀ i, i < l.length → ∀ j, j < q → c i j = f (l.getD i d) j) (hc' : ∀ i, i < m.length → ∀ j, j < q → c' i j = f (m.getD i d) j) :
    Is (.sl l.length q c) (.sl m.length q c') ↔ l = m := by
  constructor
  · intro h
    rw [Is] at h
    obtain ⟨h1, h2⟩ := h
    refine list_eq_getD d h1 fun i hi => ?_
    rcases h2 with h2 | ⟨_, h2⟩
    · omega
    · refine (he _ (by simp [hi]) _).1 fun j hj => ?_
      have := h2 i hi j hj
      rw [hc i hi j hj, hc' i (by omega) j hj] at this
      exact this
  · rintro rfl
    rw [Is]
    exact ⟨rfl, .inr ⟨rfl, fun i hi j hj => by rw [hc i hi j hj, hc' i hi j hj]; exact (he _ (by simp [hi]) _).2 rfl j hj⟩⟩
/-- The same cells, said in another way. -/
theorem Is_sl_cell {n q : Nat} {c c' : Nat → Nat → AV} {a : AV} (h : ∀ i, i < n → ∀ j, j < q → c i j = c' i j) (ha : Is a (.sl n q c)) : Is a (.sl n q c') := by
  cases a with
  | sl n1 e1 c1 =>
    rw [Is] at ha ⊢
    obtain ⟨rfl, h2⟩ := ha
    refine ⟨rfl, h2.imp id fun h2 => ?_⟩
    obtain ⟨rfl, h3⟩ := h2
    exact ⟨rfl, fun i hi j hj => by rw [← h i hi j hj]; exact h3 i hi j hj⟩
  | lit n1 e1 c1 =>
    rw [Is] at ha ⊢
    obtain ⟨rfl, h2⟩ := ha
    refine ⟨rfl, h2.imp id fun h2 => ?_⟩
    obtain ⟨rfl, h3⟩ := h2
    exact ⟨rfl, fun i hi j hj => by rw [← h i hi j hj]; exact h3 i hi j hj⟩
  | hdr x1 n1 e1 c1 =>
    rw [Is] at ha ⊢
    obtain ⟨rfl, h2⟩ := ha
    refine ⟨rfl, h2.imp id fun h2 => ?_⟩
    obtain ⟨rfl, h3⟩ := h2
    exact ⟨rfl, fun i hi j hj => by rw [← h i hi j hj]; exact h3 i hi j hj⟩
  | _ => simp [Is] at ha
theorem eTr_lt {t : Tree α} {j : Nat} (h : j < k) : eTr k e t j = e t.val j := by unfold eTr; rw [blt_true h]; rfl
theorem eTr_kids {t : Tree α} : eTr k e t k = .sl t.kids.length (k + 1) (subTr k e t) := by unfold eTr; rw [blt_false (Nat.lt_irrefl k)]; rfl
theorem EncN.tr (he : EncN k e) : EncN (k + 1) (eTr k e) := fun x y => by
  have main : ∀ (n : Nat) (x y : Tree α), x.many ≤ n → ((∀ j, j < k + 1 → Is (eTr k e x j) (eTr k e y j)) ↔ x = y) := by
    intro n
    induction n with
    | zero => intro x y h; have := x.many_pos; omega
    | succ n ih =>
      intro x y hn
      have kids : ∀ z ∈ x.kids, ∀ w, (∀ j, j < k + 1 → Is (eTr k e z j) (eTr k e w j)) ↔ z = w := fun z hz w => ih z w (by have := Tree.many_kid hz; omega)
      have key : Is (.sl x.kids.length (k + 1) (subTr k e x)) (.sl y.kids.length (k + 1) (subTr k e y)) ↔ x.kids = y.kids :=
        Is_sl_iff2 (d := x) (Nat.succ_pos k) kids (fun i hi j _ => subTr_get x x i hi j) (fun i hi j _ => subTr_get x y i hi j)
      constructor
      · intro h
        refine Tree.ext ((he _ _).1 fun j hj => ?_) (key.1 ?_)
        · have := h j (by omega)
          rw [eTr_lt hj, eTr_lt hj] at this
          exact this
        · have := h k (by omega)
          rw [eTr_kids, eTr_kids] at this
          exact this
      · rintro rfl j hj
        by_cases hjk : j < k
        · rw [eTr_lt hjk]; exact (he _ _).2 rfl j hjk
        · have : j = k := by omega
          subst this
          rw [eTr_kids]
          exact key.2 rfl
  exact main x.many x y (Nat.le_refl _)
end
end Cg

/-
  Words and terms: how they lie in cells. No condition.
-/
set_option linter.unusedVariables false
set_option linter.unusedSimpArgs false
namespace Pl
abbrev Tm := Tree ByteArray
abbrev TP := ByteArray × List Tm
abbrev Sym := ByteArray × List Int × Int
def dT : Tm := .mk ByteArray.empty []
def dY : Sym := (ByteArray.empty, [], 0)
end Pl
namespace Cg
open Go Pl
def subT (t : Tm) : Nat → Nat → AV := subTr 1 eS t
def eT (t : Tm) (j : Nat) : AV := match j with
  | 0 => st t.val
  | _ => .sl t.kids.length 2 (subT t)
theorem eT_tr (t : Tm) : ∀ j, j < 2 → eT t j = eTr 1 eS t j
  | 0, _ => (eTr_lt (k := 1) (e := eS) (t := t) (j := 0) (by decide)).symm
  | 1, _ => (eTr_kids (k := 1) (e := eS) (t := t)).symm
theorem EncN.eT : EncN 2 eT := fun x y => by
  rw [← EncN.tr EncN.eS x y]
  exact ⟨fun h j hj => by rw [← eT_tr x j hj, ← eT_tr y j hj]; exact h j hj, fun h j hj => by rw [eT_tr x j hj, eT_tr y j hj]; exact h j hj⟩
/-- The terms below a term. -/
def kidsT (t : Tm) : AV := .sl t.kids.length 2 (subT t)

def cT (l : List Tm) : Nat → Nat → AV := fun i j => eT (l.getD i dT) j
def terms (l : List Tm) : AV := .sl l.length 2 fun i j => eT (l.getD i dT) j
def arT (l : List Tm) : AObj := .arr l.length 2 fun i j => eT (l.getD i dT) j
theorem Enc.terms : Enc terms := Enc.sln (by decide) EncN.eT dT
@[simp] theorem Is_terms {x y : List Tm} : Is (terms x) (terms y) ↔ x = y := Enc.terms x y
@[simp] theorem IsO_terms {x y : List Tm} : IsO (arT x) (arT y) ↔ y = [] ∨ x = y := IsO_arn EncN.eT
@[simp] theorem IsO_terms0 {n : Nat} {c : Nat → Nat → AV} : IsO (.arr n 2 c) (arT []) := IsO_nil
@[simp] theorem terms_nil {q : Nat} {c : Nat → Nat → AV} {m : List Tm} : Is (.lit 0 q c) (terms m) ↔ m = [] := nil_sln
@[simp] theorem terms_nilA {m : List Tm} : Is nilA (terms m) ↔ m = [] := nil_sln
@[simp] theorem terms_join {l m : List Tm} : IsO (.arr (l.length + m.length) 2 (joinC l.length (cT l) (cT m))) (arT (l ++ m)) := IsO_join EncN.eT (IsR_cel EncN.eT)
@[simp] theorem terms_join0 {m : List Tm} {c : Nat → Nat → AV} : IsO (.arr (0 + m.length) 2 (joinC 0 c (cT m))) (arT m) := IsO_join0 EncN.eT (IsR_cel EncN.eT)
@[simp] theorem terms_join0' {m : List Tm} {c : Nat → Nat → AV} : IsO (.arr m.length 2 (joinC 0 c (cT m))) (arT m) := IsO_join0 EncN.eT (IsR_cel EncN.eT)
@[simp] theorem Is_kidsT {t : Tm} {m : List Tm} : Is (kidsT t) (terms m) ↔ t.kids = m :=
  Is_sl_iff2 (d := dT) (by decide) (fun x _ y => EncN.eT x y) (fun i hi j hj => by rw [eT_tr _ j hj]; exact subTr_get dT t i hi j) (fun i _ j _ => rfl)
@[simp] theorem Is_terms_kidsT {t : Tm} {m : List Tm} : Is (terms m) (kidsT t) ↔ m = t.kids :=
  Is_sl_iff2 (d := dT) (by decide) (fun x _ y => EncN.eT x y) (fun i _ j _ => rfl) (fun i hi j hj => by rw [eT_tr _ j hj]; exact subTr_get dT t i hi j)
@[simp] theorem Is_kidsT2 {t u : Tm} : Is (kidsT t) (kidsT u) ↔ t.kids = u.kids :=
  Is_sl_iff2 (d := dT) (by decide) (fun x _ y => EncN.eT x y) (fun i hi j hj => by rw [eT_tr _ j hj]; exact subTr_get dT t i hi j) (fun i hi j hj => by rw [eT_tr _ j hj]; exact subTr_get dT u i hi j)
theorem Is_rowT {v : ByteArray} {a : AV} {ks : List Tm} (ha : Is a (terms ks)) : ∀ j, j < 2 → Is ([st v, a].getD j .any) (eT (.mk v ks) j) := fun j hj => by
  match j, hj with
  | 0, _ => exact (Enc.st v v).2 rfl
  | 1, _ =>
    exact Is_sl_cell (fun i hi j hj => by rw [eT_tr _ j hj]; exact (subTr_get dT (Tree.mk v ks) i hi j).symm) ha
theorem Is_rowK {v : ByteArray} {a : AV} {t : Tm} (hv : v = t.val) (ha : Is a (kidsT t)) : ∀ j, j < 2 → Is ([st v, a].getD j .any) (eT t j) := fun j hj => by
  match j, hj with
  | 0, _ => exact (Enc.st v t.val).2 hv
  | 1, _ => exact ha

def eY (x : Sym) (j : Nat) : AV := match j with
  | 0 => st x.1
  | 1 => ints x.2.1
  | _ => i64 x.2.2
theorem EncN.eY : EncN 3 eY := fun x y => by
  constructor
  · intro h
    have h0 : Is (st x.1) (st y.1) := h 0 (by decide)
    have h1 : Is (ints x.2.1) (ints y.2.1) := h 1 (by decide)
    have h2 : Is (i64 x.2.2) (i64 y.2.2) := h 2 (by decide)
    simp only [Is_i64, Is_u8, Is_bl, Is_st, Is_ints, Is_bools, Is_strs, Is_intss] at h0 h1 h2
    grind
  · rintro rfl j hj
    match j, hj with
    | 0, _ => show Is (st x.1) (st x.1); simp
    | 1, _ => show Is (ints x.2.1) (ints x.2.1); simp
    | 2, _ => show Is (i64 x.2.2) (i64 x.2.2); simp
def cY (l : List Sym) : Nat → Nat → AV := fun i j => eY (l.getD i dY) j
def syms (l : List Sym) : AV := .sl l.length 3 fun i j => eY (l.getD i dY) j
def arY (l : List Sym) : AObj := .arr l.length 3 fun i j => eY (l.getD i dY) j
theorem Enc.syms : Enc syms := Enc.sln (by decide) EncN.eY dY
@[simp] theorem Is_syms {x y : List Sym} : Is (syms x) (syms y) ↔ x = y := Enc.syms x y
@[simp] theorem IsO_syms {x y : List Sym} : IsO (arY x) (arY y) ↔ y = [] ∨ x = y := IsO_arn EncN.eY
@[simp] theorem IsO_syms0 {n : Nat} {c : Nat → Nat → AV} : IsO (.arr n 3 c) (arY []) := IsO_nil
@[simp] theorem syms_nil {q : Nat} {c : Nat → Nat → AV} {m : List Sym} : Is (.lit 0 q c) (syms m) ↔ m = [] := nil_sln
@[simp] theorem syms_nilA {m : List Sym} : Is nilA (syms m) ↔ m = [] := nil_sln
@[simp] theorem syms_join {l m : List Sym} : IsO (.arr (l.length + m.length) 3 (joinC l.length (cY l) (cY m))) (arY (l ++ m)) := IsO_join EncN.eY (IsR_cel EncN.eY)
@[simp] theorem syms_join0 {m : List Sym} {c : Nat → Nat → AV} : IsO (.arr (0 + m.length) 3 (joinC 0 c (cY m))) (arY m) := IsO_join0 EncN.eY (IsR_cel EncN.eY)
@[simp] theorem syms_join0' {m : List Sym} {c : Nat → Nat → AV} : IsO (.arr m.length 3 (joinC 0 c (cY m))) (arY m) := IsO_join0 EncN.eY (IsR_cel EncN.eY)
theorem Is_rowY {a : ByteArray} {b : AV} {l : List Int} {c : Int} (hb : Is b (ints l)) : ∀ j, j < 3 → Is ([st a, b, i64 c].getD j .any) (eY (a, l, c) j) := fun j hj => by
  match j, hj with
  | 0, _ => exact (Enc.st a a).2 rfl
  | 1, _ => exact hb
  | 2, _ => exact (Enc.i64 c c).2 rfl
@[simp] theorem syms_set {l : List Sym} {i : Nat} {a : ByteArray} {b : List Int} {c : Int} : IsO (.arr l.length 3 (storeC (cY l) i 0 [st a, ints b, i64 c])) (arY (l.set i (a, b, c))) := IsO_set EncN.eY rfl (Is_rowY ((Enc.ints b b).2 rfl))
@[simp] theorem syms_make {n : Nat} : IsO (.arr n 3 (fun _ j => [st ByteArray.empty, nilA, i64 0].getD j .any)) (arY (List.replicate n dY)) := IsO_make EncN.eY (Is_rowY (ints_nilA.2 rfl))
@[simp] theorem terms_set {l : List Tm} {i : Nat} {a : ByteArray} {b : List Tm} : IsO (.arr l.length 2 (storeC (cT l) i 0 [st a, terms b])) (arT (l.set i (.mk a b))) := IsO_set EncN.eT rfl (Is_rowT ((Enc.terms b b).2 rfl))
@[simp] theorem terms_make {n : Nat} : IsO (.arr n 2 (fun _ j => [st ByteArray.empty, nilA].getD j .any)) (arT (List.replicate n dT)) := IsO_make EncN.eT (Is_rowT (terms_nilA.2 rfl))
theorem terms_row (a : ByteArray) (b : List Tm) : IsR 2 eT dT (rowsCell [[st a, terms b]]) [.mk a b] := IsR_row EncN.eT (Is_rowT ((Enc.terms b b).2 rfl))
@[simp] theorem terms_push {l : List Tm} {a : ByteArray} {b : List Tm} : IsO (.arr (l.length + 1) 2 (joinC l.length (cT l) (rowsCell [[st a, terms b]]))) (arT (l ++ [.mk a b])) := IsO_join EncN.eT (terms_row a b)
theorem syms_row (a : ByteArray) (b : List Int) (c : Int) : IsR 3 eY dY (rowsCell [[st a, ints b, i64 c]]) [(a, b, c)] := IsR_row EncN.eY (Is_rowY ((Enc.ints b b).2 rfl))
@[simp] theorem syms_push {l : List Sym} {a : ByteArray} {b : List Int} {c : Int} : IsO (.arr (l.length + 1) 3 (joinC l.length (cY l) (rowsCell [[st a, ints b, i64 c]]))) (arY (l ++ [(a, b, c)])) := IsO_join EncN.eY (syms_row a b c)
end Cg

/-
  Plain functions, and what is known of the codes' callees and loops: clauses. No condition.
-/
namespace Pl
open Go
def wneg (x : Int) : Int := IntKind.i64.wrap (0 - x)
def absW (x : Int) : Int := if x < -60 then 61 else if x > 60 then 61 else if x < 0 then wneg x else x
def withinI (n lo hi : Int) : Bool := decide (lo ≤ n) && decide (n ≤ hi)
def isMark (l many : Int) : Bool := decide (l ≠ 0) && withinI l (wneg many) many
def varI (x : Int) : Int := if wneg x > x then wneg x else x
def specLoop (many last : Int) : List Int → Bool
  | [] => decide (many ≥ 0) && decide (many ≤ 60)
  | x :: xs => bif decide (absW x ≤ last) || decide (absW x > many) then false else specLoop many (absW x) xs
def specClause (l : List Int) (many : Int) : Bool := specLoop many 0 l
def implLoop (many : Int) : Option Int → List Int → Bool
  | _, [] => true
  | none, x :: xs => bif !isMark x many then false else implLoop many (some x) xs
  | some p, x :: xs => bif !isMark x many || decide (varI p ≥ varI x) then false else implLoop many (some x) xs
def implClause (l : List Int) (many : Int) : Bool := bif withinI many 0 60 then implLoop many none l else false
def prev (l : List Int) (k : Nat) : Option Int := if k = 0 then none else some (l.getD (k - 1) 0)
end Pl
namespace Cg
open Go
abbrev Sz {α : Type} (l : List α) : Prop := l.length ≤ 4294967296

def K_within : Nat × Contract := (Nm.impl_within, .sc (Int × Int × Int) (fun x => [i64 x.1, i64 x.2.1, i64 x.2.2]) (fun _ => True) (fun x => bl (Pl.withinI x.1 x.2.1 x.2.2)))
def A_sClauseOk (l : List Int) (many : Int) : List Ann :=
  [.mk (Nat × Int) (fun x => x.1 ≤ l.length ∧ Pl.specClause l many = Pl.specLoop many x.2 (l.drop x.1)) (fun x => { fr := pad [ints l, i64 many, .any, .any, .any, i64 x.2, i64 x.1] 40, H := [] }) (fun x => l.length - x.1) (fun _ => [])]
def A_iClauseOk (l : List Int) (many : Int) : List Ann :=
  [.mk Nat (fun x => x ≤ l.length ∧ Pl.implClause l many = Pl.implLoop many (Pl.prev l x) (l.drop x)) (fun x => { fr := pad [ints l, i64 many, .any, .any, .any, .any, .any, .any, .any, .any, ints l, i64 l.length, i64 x] 37, H := [] }) (fun x => l.length - x) (fun _ => [])]
def A_toIntS (l : List Int) : List Ann :=
  [.mk (Nat × List Int) (fun x => x.1 ≤ l.length ∧ x.2.length = l.length ∧ x.2.take x.1 = l.take x.1) (fun x => { fr := pad [ints l, .any, .any, .osl 0 0 x.2.length, i64 x.1] 22, H := [arI x.2] }) (fun x => l.length - x.1) (fun _ => [])]
def A_eqIntS (l m : List Int) : List Ann :=
  [.mk Nat (fun x => x ≤ l.length ∧ l.length = m.length ∧ (l = m ↔ l.drop x = m.drop x)) (fun x => { fr := pad [ints l, ints m, .any, .any, .any, i64 x] 26, H := [] }) (fun x => l.length - x) (fun _ => [])]
end Cg

/-
  Plain functions, and what is known of the codes' callees and loops: rows of rows, values of marks. No condition.
-/
namespace Pl
def sz1 (n : Nat) (k : Int) : Int := if k - n < 0 then -1 else k - n
def szL : List (List Int) → Int → Int
  | [], k => k
  | x :: xs, k => if k - x.length < 0 then -1 else szL xs (k - x.length)
def szSS (l : List (List Int)) (k : Int) : Int := if k - l.length < 0 then -1 else szL l (k - l.length)
def logEnds (l : List (List Int)) : Bool := decide (l.length > 0) && decide ((l.getD (l.length - 1) []).length = 0)
def lIs (n : Int) (vals : List Bool) : Bool :=
  if n = 0 ∨ n > vals.length ∨ n < -vals.length then false else if n < 0 then !(vals.getD (-1 - n).toNat false) else vals.getD (n - 1).toNat false
def clauseIs (l : List Int) (vals : List Bool) : Bool := l.any fun x => lIs x vals
/-- Where the first is for which something holds. -/
def idx {α : Type} (p : α → Bool) : List α → Int
  | [] => -1
  | x :: l => if p x then 0 else if idx p l < 0 then -1 else idx p l + 1
end Pl
namespace Cg
open Go
abbrev SzL {α : Type} (l : List (List α)) : Prop := Sz l ∧ ∀ x ∈ l, Sz x
abbrev Ml {α : Type} (l : List α) : Prop := l.length ≤ 9223372036854775807
abbrev MlL {α : Type} (l : List (List α)) : Prop := Ml l ∧ ∀ x ∈ l, Ml x
abbrev Fu (k : Int) : Prop := 0 ≤ k ∧ k ≤ 1048576

def A_szIntSS (l : List (List Int)) (k : Int) : List Ann :=
  [.mk (Nat × Int) (fun x => x.1 ≤ l.length ∧ Fu x.2 ∧ Pl.szSS l k = Pl.szL (l.drop x.1) x.2) (fun x => { fr := pad [intss l, i64 x.2, .any, .any, .any, i64 x.1] 27, H := [] }) (fun x => l.length - x.1) (fun _ => [])]
def A_toIntSS (l : List (List Int)) : List Ann :=
  [.mk (Nat × List (List Int)) (fun x => x.1 ≤ l.length ∧ x.2.length = l.length ∧ x.2.take x.1 = l.take x.1) (fun x => { fr := pad [intss l, .any, .any, .osl 0 0 x.2.length, i64 x.1] 23, H := [arII x.2] }) (fun x => l.length - x.1) (fun _ => [])]
def A_eqIntSS (l m : List (List Int)) : List Ann :=
  [.mk Nat (fun x => x ≤ l.length ∧ l.length = m.length ∧ (l = m ↔ l.drop x = m.drop x)) (fun x => { fr := pad [intss l, intss m, .any, .any, .any, i64 x] 27, H := [] }) (fun x => l.length - x) (fun _ => [])]
def A_toBoolS (l : List Bool) : List Ann :=
  [.mk (Nat × List Bool) (fun x => x.1 ≤ l.length ∧ x.2.length = l.length ∧ x.2.take x.1 = l.take x.1) (fun x => { fr := pad [bools l, .any, .any, .osl 0 0 x.2.length, i64 x.1] 22, H := [arB x.2] }) (fun x => l.length - x.1) (fun _ => [])]
def A_eqBoolS (l m : List Bool) : List Ann :=
  [.mk Nat (fun x => x ≤ l.length ∧ l.length = m.length ∧ (l = m ↔ l.drop x = m.drop x)) (fun x => { fr := pad [bools l, bools m, .any, .any, .any, i64 x] 26, H := [] }) (fun x => l.length - x) (fun _ => [])]
def A_sClauseIs (l : List Int) (v : List Bool) : List Ann :=
  [.mk Nat (fun x => x ≤ l.length ∧ Pl.clauseIs l v = Pl.clauseIs (l.drop x) v) (fun x => { fr := pad [ints l, bools v, .any, .any, .any, i64 x] 25, H := [] }) (fun x => l.length - x) (fun _ => [])]
end Cg

/-
  Plain functions, and what is known of the codes' callees and loops: words. No condition.
-/
namespace Pl
open Go
abbrev Sig := List Sym
def bs (s : ByteArray) : List UInt8 := s.data.toList
def lower (b : UInt8) : Bool := !(decide ((b.toNat : Int) < 97) || decide ((b.toNat : Int) > 122))
def nameOk (s : ByteArray) : Bool := decide (1 ≤ s.size) && decide (s.size ≤ 2) && (bs s).all lower
def isSort (n : Int) : Bool := decide (n = 0) || decide (n = 1)
def symOk (x : Sym) : Bool := nameOk x.1 && decide (x.2.1.length ≤ 2) && isSort x.2.2 && x.2.1.all isSort
def sLess (a b : ByteArray) : Bool := Op.bytesLess a.toList b.toList
def before (p : Option ByteArray) (x : ByteArray) : Bool := match p with
  | none => true
  | some q => sLess q x
def sigL : Option ByteArray → List Sym → Bool
  | _, [] => true
  | p, x :: xs => symOk x && before p x.1 && sigL (some x.1) xs
def sigOk (s : Sig) : Bool := sigL none s && decide (s.length ≤ 7)
def prevS (s : Sig) (k : Nat) : Option ByteArray := if k = 0 then none else some (s.getD (k - 1) dY).1
def lim (x : Int) : Int := if x < 0 then -1 else x
def costY (x : Sym) : Nat := x.1.size + x.2.1.length
def sumN {α : Type} (f : α → Nat) : List α → Nat
  | [] => 0
  | x :: xs => f x + sumN f xs
def costG (s : Sig) : Nat := s.length + sumN costY s
end Pl
namespace Cg
open Go Pl
def symA (x : Sym) : AV := .agg [st x.1, ints x.2.1, i64 x.2.2]
def sigA (s : Sig) : AV := .agg [syms s]
/-- A word whose parts are of any size at all, or of some. -/
abbrev MlY (x : Sym) : Prop := x.1.size ≤ 9223372036854775807 ∧ x.2.1.length ≤ 9223372036854775807
abbrev MlG (s : Sig) : Prop := s.length ≤ 9223372036854775807 ∧ ∀ x ∈ s, MlY x
abbrev SmG (s : Sig) : Prop := costG s ≤ 1048576
def K_sNameOk : Nat × Contract := (Nm.spec_NameOk, .sc ByteArray (fun x => [st x]) (fun x => x.size ≤ 1048576) fun x => bl (nameOk x))
def K_iNameOk : Nat × Contract := (Nm.impl_NameOk, .sc ByteArray (fun x => [st x]) (fun x => x.size ≤ 1048576) fun x => bl (nameOk x))
def K_l4Sort : Nat × Contract := (Nm.spec_l4Sort, .sc Int (fun x => [i64 x]) (fun _ => True) fun x => bl (isSort x))
def K_isSort : Nat × Contract := (Nm.impl_isSort, .sc Int (fun x => [i64 x]) (fun _ => True) fun x => bl (isSort x))
def K_sSigOk : Nat × Contract := (Nm.spec_SigOk, .sc Sig (fun x => [sigA x]) SmG fun x => bl (sigOk x))
def K_iSigOk : Nat × Contract := (Nm.impl_SigOk, .sc Sig (fun x => [sigA x]) SmG fun x => bl (sigOk x))
def K_symok : Nat × Contract := (Nm.impl_Sym_ok, .sc Sym (fun x => [symA x]) (fun x => x.1.size ≤ 1048576 ∧ Sz x.2.1) fun x => bl (symOk x))
def K_symok1 : Nat × Contract := (Nm.impl_Sym_ok_1, .sc Int (fun x => [i64 x]) (fun _ => True) fun x => bl (!isSort x))
def K_IndexSort : Nat × Contract := (Nm.slices_IndexFunc_Sint_int, .sc (List Int) (fun x => [ints x, .fn (.func Nm.impl_Sym_ok_1) []]) (fun x => Sz x) fun x => i64 (idx (fun y => !isSort y) x))
def K_ContainsSort : Nat × Contract := (Nm.slices_ContainsFunc_Sint_int, .sc (List Int) (fun x => [ints x, .fn (.func Nm.impl_Sym_ok_1) []]) (fun x => Sz x) fun x => bl (x.any fun y => !isSort y))
def A_szSymS (s : Sig) (k : Int) : List Ann :=
  [.mk Nat (fun x => x ≤ s.length ∧ 0 ≤ k - s.length - sumN costY (s.take x)) (fun x => { fr := pad [syms s, i64 (k - s.length - sumN costY (s.take x)), .any, .any, .any, i64 x] 27, H := [] }) (fun x => s.length - x) (fun _ => [])]
def A_toSymS (s : Sig) : List Ann :=
  [.mk (Nat × Sig) (fun x => x.1 ≤ s.length ∧ x.2.length = s.length ∧ x.2.take x.1 = s.take x.1) (fun x => { fr := pad [syms s, .any, .any, .osl 0 0 x.2.length, i64 x.1] 23, H := [arY x.2] }) (fun x => s.length - x.1) (fun _ => [])]
def A_eqSymS (s t : Sig) : List Ann :=
  [.mk Nat (fun x => x ≤ s.length ∧ s.length = t.length ∧ (s = t ↔ s.drop x = t.drop x)) (fun x => { fr := pad [syms s, syms t, .any, .any, .any, i64 x] 27, H := [] }) (fun x => s.length - x) (fun _ => [])]
def A_sNameOk (s : ByteArray) : List Ann :=
  [.mk Nat (fun x => x ≤ s.size ∧ (bs s).all lower = ((bs s).drop x).all lower) (fun x => { fr := pad [st s, .any, .any, i64 x] 28, H := [] }) (fun x => s.size - x) (fun _ => [])]
def A_iNameOk (s : ByteArray) : List Ann :=
  [.mk Nat (fun x => x ≤ s.size ∧ (bs s).all lower = ((bs s).drop x).all lower) (fun x => { fr := pad [st s, .any, .any, .any, .any, .any, .any, .any, .any, i64 s.size, i64 x] 24, H := [] }) (fun x => s.size - x) (fun _ => [])]
def A_IndexSort (l : List Int) : List Ann :=
  [.mk Nat (fun x => x ≤ l.length ∧ idx (fun y => !isSort y) l = if idx (fun y => !isSort y) (l.drop x) < 0 then -1 else idx (fun y => !isSort y) (l.drop x) + x)
    (fun x => { fr := pad [ints l, .fn (.func Nm.impl_Sym_ok_1) [], .any, .any, .any, .any, .any, i64 l.length, i64 x] 19, H := [] }) (fun x => l.length - x) (fun _ => [])]
def A_sSigOk (s : Sig) : List Ann :=
  [.mk Nat (fun x => x ≤ s.length ∧ sigL none s = sigL (prevS s x) (s.drop x)) (fun x => { fr := pad [.any, .ptr 0 0, .any, i64 x] 68, H := [.var [syms s]] }) (fun x => s.length - x)
    (fun x => [.mk Nat (fun j => x < s.length ∧ j ≤ (s.getD x dY).2.1.length ∧ (s.getD x dY).2.1.all isSort = ((s.getD x dY).2.1.drop j).all isSort ∧ (nameOk (s.getD x dY).1 && decide ((s.getD x dY).2.1.length ≤ 2) && isSort (s.getD x dY).2.2) = true ∧ before (prevS s x) (s.getD x dY).1 = true)
      (fun j => { fr := pad [.any, .ptr 0 0, .any, i64 x, .ptr 1 0, i64 j] 68, H := [.var [syms s], .var [st (s.getD x dY).1, ints (s.getD x dY).2.1, i64 (s.getD x dY).2.2]] }) (fun j => (s.getD x dY).2.1.length - j) (fun _ => [])])]
def A_iSigOk (s : Sig) : List Ann :=
  [.mk Nat (fun x => x ≤ s.length ∧ sigL none s = sigL (prevS s x) (s.drop x)) (fun x => { fr := pad [.any, .ptr 0 0, .any, .any, .any, .any, syms s, i64 s.length, i64 x] 37, H := [.var [syms s]] }) (fun x => s.length - x) (fun _ => [])]
end Cg

/-
  Plain functions, and what is known of the codes' callees and loops: terms. No condition.
-/
namespace Pl
open Go
def shape : Nat → Tm → Bool
  | 0, _ => false
  | n + 1, t => nameOk t.val && decide (t.kids.length ≤ 2) && t.kids.all (shape n)
def manyD : Nat → Tm → Nat
  | 0, _ => 1
  | n + 1, t => 1 + sumN (manyD n) t.kids
def right (t : Tm) : Bool := shape 4 t && decide (manyD 4 t ≤ 12)
def tsz : Nat → Tm → Nat
  | 0, _ => 13
  | n + 1, t => if (!nameOk t.val || decide (t.kids.length > 2)) = true then 13 else 1 + sumN (tsz n) t.kids
def isTerm (t : Tm) : Bool := decide (tsz 4 t ≤ 12)
def find (s : Sig) (nm : ByteArray) : Option Sym := s.find? fun x => decide (x.1 = nm)
mutual
def sortT (s : Sig) : Tm → Option Int
  | .mk v ks => match find s v with
    | none => none
    | some x => if x.2.1.length ≠ ks.length then none else if sortL s ks x.2.1 = true then some x.2.2 else none
def sortL (s : Sig) : List Tm → List Int → Bool
  | [], _ => true
  | t :: ts, qs => decide (sortT s t = some (qs.headD 0)) && sortL s ts qs.tail
end
mutual
def costT : Tm → Nat
  | .mk v ks => v.size + ks.length + costTs ks
def costTs : List Tm → Nat
  | [] => 0
  | t :: ts => costT t + costTs ts
end
theorem costT_eq (t : Tm) : costT t = t.val.size + t.kids.length + costTs t.kids := by cases t; simp only [costT, Tree.val, Tree.kids]
theorem costT_mem {t : Tm} : ∀ {l : List Tm}, t ∈ l → costT t ≤ costTs l
  | u :: r, h => by
    unfold costTs
    cases List.mem_cons.1 h with
    | inl e => subst e; omega
    | inr e => have := costT_mem e; omega
theorem costTs_snoc (l : List Tm) (t : Tm) : costTs (l ++ [t]) = costTs l + costT t := by
  induction l with
  | nil => simp [costTs]
  | cons u r ih => simp only [List.cons_append, costTs, ih]; omega
/-- A thing that holds of all terms in a term. -/
inductive AllT (p : Tm → Prop) : Tm → Prop where
  | mk {t : Tm} (h : p t) (hk : ∀ u ∈ t.kids, AllT p u) : AllT p t
theorem AllT.here {p : Tm → Prop} {t : Tm} (h : AllT p t) : p t := by cases h; assumption
end Pl
namespace Cg
open Go Pl
def termA (x : TP) : AV := .agg [st x.1, terms x.2]
abbrev TP.tm (x : TP) : Tm := .mk x.1 x.2
abbrev MlT (t : Tm) : Prop := AllT (fun u => u.val.size ≤ 9223372036854775807 ∧ u.kids.length ≤ 9223372036854775807) t
abbrev SmT (t : Tm) : Prop := costT t ≤ 1048576
abbrev SmTs (l : List Tm) : Prop := l.length + costTs l ≤ 1048576
def A_szTermS (l : List Tm) (k : Int) : List Ann :=
  [.mk Nat (fun x => x ≤ l.length ∧ 0 ≤ k - l.length - costTs (l.take x)) (fun x => { fr := pad [terms l, i64 (k - l.length - costTs (l.take x)), .any, .any, .any, i64 x] 27, H := [] }) (fun x => l.length - x) (fun _ => [])]
def A_toTermS (l : List Tm) : List Ann :=
  [.mk (Nat × List Tm) (fun x => x.1 ≤ l.length ∧ x.2.length = l.length ∧ x.2.take x.1 = l.take x.1) (fun x => { fr := pad [terms l, .any, .any, .osl 0 0 x.2.length, i64 x.1] 23, H := [arT x.2] }) (fun x => l.length - x.1) (fun _ => [])]
def A_eqTermS (l m : List Tm) : List Ann :=
  [.mk Nat (fun x => x ≤ l.length ∧ l.length = m.length ∧ (l = m ↔ l.drop x = m.drop x)) (fun x => { fr := pad [terms l, terms m, .any, .any, .any, i64 x] 27, H := [] }) (fun x => l.length - x) (fun _ => [])]
end Cg

/-
  Plain functions, and what is known of the codes' callees and loops: the sorts of terms. No condition.
-/
namespace Pl
open Go
def symOf (s : Sig) (nm : ByteArray) : Sym := (find s nm).getD dY
def termSort (s : Sig) (t : Tm) : Int × Bool := if (sigOk s && right t) = true then ((sortT s t).getD 0, (sortT s t).isSome) else (0, false)
end Pl
namespace Cg
open Go Pl
def K_l4Shape (n : Nat) : Nat × Contract := (Nm.spec_l4Shape, .sc TP (fun x => [termA x, i64 n]) (fun x => SmT (.mk x.1 x.2) ∧ n ≤ 10) fun x => bl (shape n (.mk x.1 x.2)))
def K_l4Many (n : Nat) : Nat × Contract := (Nm.spec_l4Many, .sc TP (fun x => [termA x, i64 n]) (fun x => SmT (.mk x.1 x.2) ∧ n ≤ 10) fun x => i64 (manyD n (.mk x.1 x.2)))
def K_l4Right : Nat × Contract := (Nm.spec_l4Right, .sc TP (fun x => [termA x]) (fun x => SmT (.mk x.1 x.2)) fun x => bl (right (.mk x.1 x.2)))
def K_l4Find : Nat × Contract := (Nm.spec_l4Find, .im (Sig × ByteArray) (fun x => [sigA x.1, st x.2]) (fun x => SmG x.1) fun x => .tup [symA (symOf x.1 x.2), bl (find x.1 x.2).isSome])
def K_symbol : Nat × Contract := (Nm.impl_Sig_symbol, .im (Sig × ByteArray) (fun x => [sigA x.1, st x.2]) (fun x => SmG x.1) fun x => .tup [symA (symOf x.1 x.2), bl (find x.1 x.2).isSome])
def K_l4Of (n : Nat) : Nat × Contract := (Nm.spec_l4Of, .sc (Sig × TP) (fun x => [sigA x.1, termA x.2]) (fun x => (sigOk x.1 = true ∧ SmG x.1 ∧ SmT (.mk x.2.1 x.2.2)) ∧ manyL x.2.2 < n) fun x => i64 ((sortT x.1 (.mk x.2.1 x.2.2)).getD (-1)))
def K_sortOf (n : Nat) : Nat × Contract := (Nm.impl_Sig_sortOf, .sc (Sig × TP) (fun x => [sigA x.1, termA x.2]) (fun x => (sigOk x.1 = true ∧ SmG x.1 ∧ SmT (.mk x.2.1 x.2.2)) ∧ manyL x.2.2 < n) fun x => .tup [i64 ((sortT x.1 (.mk x.2.1 x.2.2)).getD 0), bl (sortT x.1 (.mk x.2.1 x.2.2)).isSome])
def K_lOf : Nat × Contract := (Nm.spec_l4Of, .sc (Sig × TP) (fun x => [sigA x.1, termA x.2]) (fun x => sigOk x.1 = true ∧ SmG x.1 ∧ SmT (.mk x.2.1 x.2.2)) fun x => i64 ((sortT x.1 (.mk x.2.1 x.2.2)).getD (-1)))
def K_sOf : Nat × Contract := (Nm.impl_Sig_sortOf, .sc (Sig × TP) (fun x => [sigA x.1, termA x.2]) (fun x => sigOk x.1 = true ∧ SmG x.1 ∧ SmT (.mk x.2.1 x.2.2)) fun x => .tup [i64 ((sortT x.1 (.mk x.2.1 x.2.2)).getD 0), bl (sortT x.1 (.mk x.2.1 x.2.2)).isSome])
def K_sTermSort : Nat × Contract := (Nm.spec_TermSort, .sc (Sig × TP) (fun x => [sigA x.1, termA x.2]) (fun x => SmG x.1 ∧ SmT (.mk x.2.1 x.2.2)) fun x => .tup [i64 (termSort x.1 (.mk x.2.1 x.2.2)).1, bl (termSort x.1 (.mk x.2.1 x.2.2)).2])
def K_iTermSort : Nat × Contract := (Nm.impl_TermSort, .sc (Sig × TP) (fun x => [sigA x.1, termA x.2]) (fun x => SmG x.1 ∧ SmT (.mk x.2.1 x.2.2)) fun x => .tup [i64 (termSort x.1 (.mk x.2.1 x.2.2)).1, bl (termSort x.1 (.mk x.2.1 x.2.2)).2])
def K_termSize (n : Nat) : Nat × Contract := (Nm.impl_termSize, .sc TP (fun x => [termA x, i64 (5 - (n : Int))]) (fun x => SmT (.mk x.1 x.2) ∧ n ≤ 4) fun x => i64 (tsz n (.mk x.1 x.2)))
def K_isTerm : Nat × Contract := (Nm.impl_isTerm, .sc TP (fun x => [termA x]) (fun x => SmT (.mk x.1 x.2)) fun x => bl (right (.mk x.1 x.2)))
def A_l4Shape (n : Nat) (a : ByteArray) (b : List Tm) : List Ann :=
  [.mk Nat (fun x => x ≤ b.length ∧ shape (n + 1) (.mk a b) = (b.drop x).all (shape n)) (fun x => { fr := pad [.any, i64 ((n + 1 : Nat) : Int), .ptr 0 0, .any, .any, i64 x] 36, H := [.var [st a, terms b]] }) (fun x => b.length - x) (fun _ => [])]
def A_l4Many (n : Nat) (a : ByteArray) (b : List Tm) : List Ann :=
  [.mk Nat (fun x => x ≤ b.length) (fun x => { fr := pad [.any, i64 ((n + 1 : Nat) : Int), .ptr 0 0, .any, .any, i64 ((1 + sumN (manyD n) (b.take x) : Nat) : Int), i64 x] 29, H := [.var [st a, terms b]] }) (fun x => b.length - x) (fun _ => [])]
def A_l4Many0 (a : ByteArray) (b : List Tm) : List Ann :=
  [.mk Unit (fun _ => True) (fun x => { fr := pad [.any, i64 0, .ptr 0 0, .any, .any, i64 1, i64 0] 29, H := [.var [st a, terms b]] }) (fun _ => 0) (fun _ => [])]
def A_termSize (n : Nat) (a : ByteArray) (b : List Tm) : List Ann :=
  [.mk Nat (fun x => x ≤ b.length ∧ b.length ≤ 2) (fun x => { fr := pad [.any, i64 (5 - ((n + 1 : Nat) : Int)), .ptr 0 0, .any, .any, i64 ((1 + sumN (tsz n) (b.take x) : Nat) : Int), .any, .any, .any, .any, .any, .any, .any, .any, .any, .any, .any, .any, .any, .any, .any, .any, .any, terms b, i64 b.length, i64 x] 37, H := [.var [st a, terms b]] }) (fun x => b.length - x) (fun _ => [])]
def A_l4Find (s : Sig) (nm : ByteArray) : List Ann :=
  [.mk Nat (fun x => x ≤ s.length ∧ find s nm = find (s.drop x) nm) (fun x => { fr := pad [.any, st nm, .ptr 0 0, .any, .ptr 1 0, .any, i64 x] 28, H := [.var [syms s], .var [st ByteArray.empty, nilA, i64 0]] }) (fun x => s.length - x) (fun _ => [])]
def A_symbol (s : Sig) (nm : ByteArray) : List Ann :=
  [.mk Nat (fun x => x ≤ s.length ∧ find s nm = find (s.drop x) nm) (fun x => { fr := pad [.any, st nm, .ptr 0 0, .any, .ptr 1 0, .any, .any, .any, .any, syms s, i64 s.length, i64 x] 22, H := [.var [syms s], .var [st ByteArray.empty, nilA, i64 0]] }) (fun x => s.length - x) (fun _ => [])]
def A_l4Of (s : Sig) (a : ByteArray) (b : List Tm) : List Ann :=
  [.mk Nat (fun x => x ≤ b.length ∧ (symOf s a).2.1.length = b.length ∧ (find s a).isSome = true ∧ sortL s b (symOf s a).2.1 = sortL s (b.drop x) ((symOf s a).2.1.drop x))
    (fun x => { fr := pad [.any, .any, .ptr 0 0, .ptr 1 0, .any, .ptr 2 0, .any, i64 x] 48, H := [.var [syms s], .var [st a, terms b], .var [st (symOf s a).1, ints (symOf s a).2.1, i64 (symOf s a).2.2]] }) (fun x => b.length - x) (fun _ => [])]
def A_sortOf (s : Sig) (a : ByteArray) (b : List Tm) : List Ann :=
  [.mk Nat (fun x => x ≤ b.length ∧ (symOf s a).2.1.length = b.length ∧ (find s a).isSome = true ∧ sortL s b (symOf s a).2.1 = sortL s (b.drop x) ((symOf s a).2.1.drop x))
    (fun x => { fr := pad [.any, .any, .ptr 0 0, .ptr 1 0, .any, .any, .ptr 2 0, .any, .any, .any, .any, .any, .any, .any, .any, .any, .any, .any, .any, .any, .any, .any, .any, .any, .any, .any, .any, .any, .any, .any, .any, terms b, i64 b.length, i64 x] 58, H := [.var [syms s], .var [st a, terms b], .var [st (symOf s a).1, ints (symOf s a).2.1, i64 (symOf s a).2.2]] }) (fun x => b.length - x) (fun _ => [])]
end Cg

/-
  Plain functions, and what is known of the codes' callees and loops: clause sets. No condition.
-/
namespace Pl
abbrev Cnf := Int × List (List Int)
def cnfOk (c : Cnf) : Bool := decide (0 ≤ c.1) && decide (c.1 ≤ 60) && decide (c.2.length ≤ 400) && c.2.all fun x => specClause x c.1
def cnfIs (c : Cnf) (v : List Bool) : Bool := cnfOk c && decide ((v.length : Int) = c.1) && c.2.all fun x => clauseIs x v
end Pl
namespace Cg
open Go
def cnf (c : Pl.Cnf) : AV := .agg [i64 c.1, intss c.2]
def patCnf (m : Int) (l : List (List Int)) : AV := cnf (m, l)
abbrev SzC (c : Pl.Cnf) : Prop := SzL c.2
def A_l5Ints (l m : List Int) : List Ann :=
  [.mk Nat (fun x => x ≤ l.length ∧ l.length = m.length ∧ (l = m ↔ l.drop x = m.drop x)) (fun x => { fr := pad [ints l, ints m, .any, .any, .any, i64 x] 26, H := [] }) (fun x => l.length - x) (fun _ => [])]
def A_slEqual (l m : List Int) : List Ann :=
  [.mk Nat (fun x => x ≤ l.length ∧ l.length = m.length ∧ (l = m ↔ l.drop x = m.drop x)) (fun x => { fr := pad [ints l, ints m, .any, .any, .any, .any, .any, .any, .any, .any, .any, .any, i64 l.length, i64 x] 26, H := [] }) (fun x => l.length - x) (fun _ => [])]
def A_sCnfSame (c d : Pl.Cnf) : List Ann :=
  [.mk Nat (fun x => x ≤ c.2.length ∧ c.2.length = d.2.length ∧ c.1 = d.1 ∧ (c.2 = d.2 ↔ c.2.drop x = d.2.drop x)) (fun x => { fr := pad [.any, .any, .ptr 0 0, .ptr 1 0, .any, i64 x] 39, H := [.var [i64 c.1, intss c.2], .var [i64 d.1, intss d.2]] }) (fun x => c.2.length - x) (fun _ => [])]
def A_sCnfOk (c : Pl.Cnf) : List Ann :=
  [.mk Nat (fun x => x ≤ c.2.length ∧ Pl.cnfOk c = (c.2.drop x).all fun y => Pl.specClause y c.1) (fun x => { fr := pad [.any, .ptr 0 0, .any, i64 x] 34, H := [.var [i64 c.1, intss c.2]] }) (fun x => c.2.length - x) (fun _ => [])]
def A_sCnfIs (c : Pl.Cnf) (v : List Bool) : List Ann :=
  [.mk Nat (fun x => x ≤ c.2.length ∧ Pl.cnfIs c v = (c.2.drop x).all fun y => Pl.clauseIs y v) (fun x => { fr := pad [.any, bools v, .ptr 0 0, .any, .any, i64 x] 31, H := [.var [i64 c.1, intss c.2]] }) (fun x => c.2.length - x) (fun _ => [])]
end Cg

/-
  Atoms, formulas, explanations, cases: how they lie in cells; sizes, copies, equality. No condition.
-/
set_option linter.unusedVariables false
set_option linter.unusedSimpArgs false
namespace Pl
mutual
/-- What a tree costs, and trees, by what its things cost. -/
def costTr {α : Type} (f : α → Nat) : Tree α → Nat
  | .mk v ks => f v + ks.length + costTrs f ks
def costTrs {α : Type} (f : α → Nat) : List (Tree α) → Nat
  | [] => 0
  | t :: ts => costTr f t + costTrs f ts
end
/-- A thing that holds of all trees in a tree. -/
inductive AllTr {α : Type} (p : Tree α → Prop) : Tree α → Prop where
  | mk {t : Tree α} (h : p t) (hk : ∀ u ∈ t.kids, AllTr p u) : AllTr p t
section
variable {α : Type} {f : α → Nat}
theorem AllTr.here {p : Tree α → Prop} {t : Tree α} (h : AllTr p t) : p t := by cases h; assumption
theorem costTr_eq (t : Tree α) : costTr f t = f t.val + t.kids.length + costTrs f t.kids := by cases t; simp only [costTr, Tree.val, Tree.kids]
theorem costTr_mem {t : Tree α} : ∀ {l : List (Tree α)}, t ∈ l → costTr f t ≤ costTrs f l
  | u :: r, h => by
    unfold costTrs
    cases List.mem_cons.1 h with
    | inl e => subst e; omega
    | inr e => have := costTr_mem e; omega
end
abbrev Atm := Int × TP × TP × List Tm × List Int × Int × Bool
abbrev Ltr := Atm × Bool
abbrev PF := Int × Ltr
abbrev Frm := Tree PF
abbrev FP := PF × List Frm
abbrev PW := Int × Int × TP
abbrev Wy := Tree PW
abbrev WP := PW × List Wy
abbrev PC := Int × Int × WP × List Int × TP × TP
abbrev Cse := Tree PC
abbrev CP := PC × List Cse
noncomputable instance instA : DecidableEq Atm := fun a b => Classical.propDecidable (a = b)
noncomputable instance instL : DecidableEq Ltr := fun a b => Classical.propDecidable (a = b)
noncomputable instance instPF : DecidableEq PF := fun a b => Classical.propDecidable (a = b)
noncomputable instance instFP : DecidableEq FP := fun a b => Classical.propDecidable (a = b)
noncomputable instance instWP : DecidableEq WP := fun a b => Classical.propDecidable (a = b)
noncomputable instance instPC : DecidableEq PC := fun a b => Classical.propDecidable (a = b)
noncomputable instance instCP : DecidableEq CP := fun a b => Classical.propDecidable (a = b)
def dPF : PF := (0, (0, (ByteArray.empty, []), (ByteArray.empty, []), [], [], 0, false), false)
def dF : Frm := .mk dPF []
def dPW : PW := (0, 0, ByteArray.empty, [])
def dW : Wy := .mk dPW []
def dPC : PC := (0, 0, (dPW, []), [], (ByteArray.empty, []), (ByteArray.empty, []))
def dC : Cse := .mk dPC []
def costA (x : Atm) : Nat := costT (.mk x.2.1.1 x.2.1.2) + costT (.mk x.2.2.1.1 x.2.2.1.2) + (x.2.2.2.1.length + costTs x.2.2.2.1) + x.2.2.2.2.1.length
def costL (x : Ltr) : Nat := costA x.1
def costPF (x : PF) : Nat := costL x.2
def costPW (x : PW) : Nat := costT (.mk x.2.2.1 x.2.2.2)
def costPC (x : PC) : Nat := costTr costPW (.mk x.2.2.1.1 x.2.2.1.2) + x.2.2.2.1.length + costT (.mk x.2.2.2.2.1.1 x.2.2.2.2.1.2) + costT (.mk x.2.2.2.2.2.1 x.2.2.2.2.2.2)
end Pl
namespace Cg
open Go Pl
def ePF (x : PF) (j : Nat) : AV := match j with
  | 0 => i64 x.1
  | 1 => i64 x.2.1.1
  | 2 => st x.2.1.2.1.1
  | 3 => terms x.2.1.2.1.2
  | 4 => st x.2.1.2.2.1.1
  | 5 => terms x.2.1.2.2.1.2
  | 6 => terms x.2.1.2.2.2.1
  | 7 => ints x.2.1.2.2.2.2.1
  | 8 => i64 x.2.1.2.2.2.2.2.1
  | 9 => bl x.2.1.2.2.2.2.2.2
  | _ => bl x.2.2
theorem EncN.ePF : EncN 11 ePF := fun x y => by
  constructor
  · intro h
    have h0 : Is (i64 x.1) (i64 y.1) := h 0 (by decide)
    have h1 : Is (i64 x.2.1.1) (i64 y.2.1.1) := h 1 (by decide)
    have h2 : Is (st x.2.1.2.1.1) (st y.2.1.2.1.1) := h 2 (by decide)
    have h3 : Is (terms x.2.1.2.1.2) (terms y.2.1.2.1.2) := h 3 (by decide)
    have h4 : Is (st x.2.1.2.2.1.1) (st y.2.1.2.2.1.1) := h 4 (by decide)
    have h5 : Is (terms x.2.1.2.2.1.2) (terms y.2.1.2.2.1.2) := h 5 (by decide)
    have h6 : Is (terms x.2.1.2.2.2.1) (terms y.2.1.2.2.2.1) := h 6 (by decide)
    have h7 : Is (ints x.2.1.2.2.2.2.1) (ints y.2.1.2.2.2.2.1) := h 7 (by decide)
    have h8 : Is (i64 x.2.1.2.2.2.2.2.1) (i64 y.2.1.2.2.2.2.2.1) := h 8 (by decide)
    have h9 : Is (bl x.2.1.2.2.2.2.2.2) (bl y.2.1.2.2.2.2.2.2) := h 9 (by decide)
    have h10 : Is (bl x.2.2) (bl y.2.2) := h 10 (by decide)
    simp only [Is_i64, Is_u8, Is_bl, Is_st, Is_ints, Is_bools, Is_strs, Is_intss, Is_terms] at h0 h1 h2 h3 h4 h5 h6 h7 h8 h9 h10
    grind
  · rintro rfl j hj
    match j, hj with
    | 0, _ => show Is (i64 x.1) (i64 x.1); simp
    | 1, _ => show Is (i64 x.2.1.1) (i64 x.2.1.1); simp
    | 2, _ => show Is (st x.2.1.2.1.1) (st x.2.1.2.1.1); simp
    | 3, _ => show Is (terms x.2.1.2.1.2) (terms x.2.1.2.1.2); simp
    | 4, _ => show Is (st x.2.1.2.2.1.1) (st x.2.1.2.2.1.1); simp
    | 5, _ => show Is (terms x.2.1.2.2.1.2) (terms x.2.1.2.2.1.2); simp
    | 6, _ => show Is (terms x.2.1.2.2.2.1) (terms x.2.1.2.2.2.1); simp
    | 7, _ => show Is (ints x.2.1.2.2.2.2.1) (ints x.2.1.2.2.2.2.1); simp
    | 8, _ => show Is (i64 x.2.1.2.2.2.2.2.1) (i64 x.2.1.2.2.2.2.2.1); simp
    | 9, _ => show Is (bl x.2.1.2.2.2.2.2.2) (bl x.2.1.2.2.2.2.2.2); simp
    | 10, _ => show Is (bl x.2.2) (bl x.2.2); simp
def subF (t : Frm) : Nat → Nat → AV := subTr 11 ePF t
def eF (t : Frm) (j : Nat) : AV := match j with
  | 0 => i64 t.val.1
  | 1 => i64 t.val.2.1.1
  | 2 => st t.val.2.1.2.1.1
  | 3 => terms t.val.2.1.2.1.2
  | 4 => st t.val.2.1.2.2.1.1
  | 5 => terms t.val.2.1.2.2.1.2
  | 6 => terms t.val.2.1.2.2.2.1
  | 7 => ints t.val.2.1.2.2.2.2.1
  | 8 => i64 t.val.2.1.2.2.2.2.2.1
  | 9 => bl t.val.2.1.2.2.2.2.2.2
  | 10 => bl t.val.2.2
  | _ => .sl t.kids.length 12 (subF t)
theorem eF_tr (t : Frm) : ∀ j, j < 12 → eF t j = eTr 11 ePF t j
  | 0, _ => (eTr_lt (k := 11) (e := ePF) (t := t) (j := 0) (by decide)).symm
  | 1, _ => (eTr_lt (k := 11) (e := ePF) (t := t) (j := 1) (by decide)).symm
  | 2, _ => (eTr_lt (k := 11) (e := ePF) (t := t) (j := 2) (by decide)).symm
  | 3, _ => (eTr_lt (k := 11) (e := ePF) (t := t) (j := 3) (by decide)).symm
  | 4, _ => (eTr_lt (k := 11) (e := ePF) (t := t) (j := 4) (by decide)).symm
  | 5, _ => (eTr_lt (k := 11) (e := ePF) (t := t) (j := 5) (by decide)).symm
  | 6, _ => (eTr_lt (k := 11) (e := ePF) (t := t) (j := 6) (by decide)).symm
  | 7, _ => (eTr_lt (k := 11) (e := ePF) (t := t) (j := 7) (by decide)).symm
  | 8, _ => (eTr_lt (k := 11) (e := ePF) (t := t) (j := 8) (by decide)).symm
  | 9, _ => (eTr_lt (k := 11) (e := ePF) (t := t) (j := 9) (by decide)).symm
  | 10, _ => (eTr_lt (k := 11) (e := ePF) (t := t) (j := 10) (by decide)).symm
  | 11, _ => (eTr_kids (k := 11) (e := ePF) (t := t)).symm
theorem EncN.eF : EncN 12 eF := fun x y => by
  rw [← EncN.tr EncN.ePF x y]
  exact ⟨fun h j hj => by rw [← eF_tr x j hj, ← eF_tr y j hj]; exact h j hj, fun h j hj => by rw [eF_tr x j hj, eF_tr y j hj]; exact h j hj⟩
def kidsF (t : Frm) : AV := .sl t.kids.length 12 (subF t)
def cF (l : List Frm) : Nat → Nat → AV := fun i j => eF (l.getD i dF) j
def forms (l : List Frm) : AV := .sl l.length 12 fun i j => eF (l.getD i dF) j
def arF (l : List Frm) : AObj := .arr l.length 12 fun i j => eF (l.getD i dF) j
theorem Enc.forms : Enc forms := Enc.sln (by decide) EncN.eF dF
@[simp] theorem Is_forms {x y : List Frm} : Is (forms x) (forms y) ↔ x = y := Enc.forms x y
@[simp] theorem IsO_forms {x y : List Frm} : IsO (arF x) (arF y) ↔ y = [] ∨ x = y := IsO_arn EncN.eF
@[simp] theorem IsO_forms0 {n : Nat} {c : Nat → Nat → AV} : IsO (.arr n 12 c) (arF []) := IsO_nil
@[simp] theorem forms_nil {q : Nat} {c : Nat → Nat → AV} {m : List Frm} : Is (.lit 0 q c) (forms m) ↔ m = [] := nil_sln
@[simp] theorem forms_nilA {m : List Frm} : Is nilA (forms m) ↔ m = [] := nil_sln
@[simp] theorem forms_join {l m : List Frm} : IsO (.arr (l.length + m.length) 12 (joinC l.length (cF l) (cF m))) (arF (l ++ m)) := IsO_join EncN.eF (IsR_cel EncN.eF)
@[simp] theorem forms_join0 {m : List Frm} {c : Nat → Nat → AV} : IsO (.arr (0 + m.length) 12 (joinC 0 c (cF m))) (arF m) := IsO_join0 EncN.eF (IsR_cel EncN.eF)
@[simp] theorem forms_join0' {m : List Frm} {c : Nat → Nat → AV} : IsO (.arr m.length 12 (joinC 0 c (cF m))) (arF m) := IsO_join0 EncN.eF (IsR_cel EncN.eF)
@[simp] theorem Is_kidsF {t : Frm} {m : List Frm} : Is (kidsF t) (forms m) ↔ t.kids = m :=
  Is_sl_iff2 (d := dF) (by decide) (fun x _ y => EncN.eF x y) (fun i hi j hj => by rw [eF_tr _ j hj]; exact subTr_get dF t i hi j) (fun i _ j _ => rfl)
@[simp] theorem Is_forms_kidsF {t : Frm} {m : List Frm} : Is (forms m) (kidsF t) ↔ m = t.kids :=
  Is_sl_iff2 (d := dF) (by decide) (fun x _ y => EncN.eF x y) (fun i _ j _ => rfl) (fun i hi j hj => by rw [eF_tr _ j hj]; exact subTr_get dF t i hi j)
@[simp] theorem Is_kidsF2 {t u : Frm} : Is (kidsF t) (kidsF u) ↔ t.kids = u.kids :=
  Is_sl_iff2 (d := dF) (by decide) (fun x _ y => EncN.eF x y) (fun i hi j hj => by rw [eF_tr _ j hj]; exact subTr_get dF t i hi j) (fun i hi j hj => by rw [eF_tr _ j hj]; exact subTr_get dF u i hi j)
def ePW (x : PW) (j : Nat) : AV := match j with
  | 0 => i64 x.1
  | 1 => i64 x.2.1
  | 2 => st x.2.2.1
  | _ => terms x.2.2.2
theorem EncN.ePW : EncN 4 ePW := fun x y => by
  constructor
  · intro h
    have h0 : Is (i64 x.1) (i64 y.1) := h 0 (by decide)
    have h1 : Is (i64 x.2.1) (i64 y.2.1) := h 1 (by decide)
    have h2 : Is (st x.2.2.1) (st y.2.2.1) := h 2 (by decide)
    have h3 : Is (terms x.2.2.2) (terms y.2.2.2) := h 3 (by decide)
    simp only [Is_i64, Is_u8, Is_bl, Is_st, Is_ints, Is_bools, Is_strs, Is_intss, Is_terms] at h0 h1 h2 h3
    grind
  · rintro rfl j hj
    match j, hj with
    | 0, _ => show Is (i64 x.1) (i64 x.1); simp
    | 1, _ => show Is (i64 x.2.1) (i64 x.2.1); simp
    | 2, _ => show Is (st x.2.2.1) (st x.2.2.1); simp
    | 3, _ => show Is (terms x.2.2.2) (terms x.2.2.2); simp
def subW (t : Wy) : Nat → Nat → AV := subTr 4 ePW t
def eW (t : Wy) (j : Nat) : AV := match j with
  | 0 => i64 t.val.1
  | 1 => i64 t.val.2.1
  | 2 => st t.val.2.2.1
  | 3 => terms t.val.2.2.2
  | _ => .sl t.kids.length 5 (subW t)
theorem eW_tr (t : Wy) : ∀ j, j < 5 → eW t j = eTr 4 ePW t j
  | 0, _ => (eTr_lt (k := 4) (e := ePW) (t := t) (j := 0) (by decide)).symm
  | 1, _ => (eTr_lt (k := 4) (e := ePW) (t := t) (j := 1) (by decide)).symm
  | 2, _ => (eTr_lt (k := 4) (e := ePW) (t := t) (j := 2) (by decide)).symm
  | 3, _ => (eTr_lt (k := 4) (e := ePW) (t := t) (j := 3) (by decide)).symm
  | 4, _ => (eTr_kids (k := 4) (e := ePW) (t := t)).symm
theorem EncN.eW : EncN 5 eW := fun x y => by
  rw [← EncN.tr EncN.ePW x y]
  exact ⟨fun h j hj => by rw [← eW_tr x j hj, ← eW_tr y j hj]; exact h j hj, fun h j hj => by rw [eW_tr x j hj, eW_tr y j hj]; exact h j hj⟩
def kidsW (t : Wy) : AV := .sl t.kids.length 5 (subW t)
def cW (l : List Wy) : Nat → Nat → AV := fun i j => eW (l.getD i dW) j
def whys (l : List Wy) : AV := .sl l.length 5 fun i j => eW (l.getD i dW) j
def arW (l : List Wy) : AObj := .arr l.length 5 fun i j => eW (l.getD i dW) j
theorem Enc.whys : Enc whys := Enc.sln (by decide) EncN.eW dW
@[simp] theorem Is_whys {x y : List Wy} : Is (whys x) (whys y) ↔ x = y := Enc.whys x y
@[simp] theorem IsO_whys {x y : List Wy} : IsO (arW x) (arW y) ↔ y = [] ∨ x = y := IsO_arn EncN.eW
@[simp] theorem IsO_whys0 {n : Nat} {c : Nat → Nat → AV} : IsO (.arr n 5 c) (arW []) := IsO_nil
@[simp] theorem whys_nil {q : Nat} {c : Nat → Nat → AV} {m : List Wy} : Is (.lit 0 q c) (whys m) ↔ m = [] := nil_sln
@[simp] theorem whys_nilA {m : List Wy} : Is nilA (whys m) ↔ m = [] := nil_sln
@[simp] theorem whys_join {l m : List Wy} : IsO (.arr (l.length + m.length) 5 (joinC l.length (cW l) (cW m))) (arW (l ++ m)) := IsO_join EncN.eW (IsR_cel EncN.eW)
@[simp] theorem whys_join0 {m : List Wy} {c : Nat → Nat → AV} : IsO (.arr (0 + m.length) 5 (joinC 0 c (cW m))) (arW m) := IsO_join0 EncN.eW (IsR_cel EncN.eW)
@[simp] theorem whys_join0' {m : List Wy} {c : Nat → Nat → AV} : IsO (.arr m.length 5 (joinC 0 c (cW m))) (arW m) := IsO_join0 EncN.eW (IsR_cel EncN.eW)
@[simp] theorem Is_kidsW {t : Wy} {m : List Wy} : Is (kidsW t) (whys m) ↔ t.kids = m :=
  Is_sl_iff2 (d := dW) (by decide) (fun x _ y => EncN.eW x y) (fun i hi j hj => by rw [eW_tr _ j hj]; exact subTr_get dW t i hi j) (fun i _ j _ => rfl)
@[simp] theorem Is_whys_kidsW {t : Wy} {m : List Wy} : Is (whys m) (kidsW t) ↔ m = t.kids :=
  Is_sl_iff2 (d := dW) (by decide) (fun x _ y => EncN.eW x y) (fun i _ j _ => rfl) (fun i hi j hj => by rw [eW_tr _ j hj]; exact subTr_get dW t i hi j)
@[simp] theorem Is_kidsW2 {t u : Wy} : Is (kidsW t) (kidsW u) ↔ t.kids = u.kids :=
  Is_sl_iff2 (d := dW) (by decide) (fun x _ y => EncN.eW x y) (fun i hi j hj => by rw [eW_tr _ j hj]; exact subTr_get dW t i hi j) (fun i hi j hj => by rw [eW_tr _ j hj]; exact subTr_get dW u i hi j)
def ePC (x : PC) (j : Nat) : AV := match j with
  | 0 => i64 x.1
  | 1 => i64 x.2.1
  | 2 => i64 x.2.2.1.1.1
  | 3 => i64 x.2.2.1.1.2.1
  | 4 => st x.2.2.1.1.2.2.1
  | 5 => terms x.2.2.1.1.2.2.2
  | 6 => whys x.2.2.1.2
  | 7 => ints x.2.2.2.1
  | 8 => st x.2.2.2.2.1.1
  | 9 => terms x.2.2.2.2.1.2
  | 10 => st x.2.2.2.2.2.1
  | _ => terms x.2.2.2.2.2.2
theorem EncN.ePC : EncN 12 ePC := fun x y => by
  constructor
  · intro h
    have h0 : Is (i64 x.1) (i64 y.1) := h 0 (by decide)
    have h1 : Is (i64 x.2.1) (i64 y.2.1) := h 1 (by decide)
    have h2 : Is (i64 x.2.2.1.1.1) (i64 y.2.2.1.1.1) := h 2 (by decide)
    have h3 : Is (i64 x.2.2.1.1.2.1) (i64 y.2.2.1.1.2.1) := h 3 (by decide)
    have h4 : Is (st x.2.2.1.1.2.2.1) (st y.2.2.1.1.2.2.1) := h 4 (by decide)
    have h5 : Is (terms x.2.2.1.1.2.2.2) (terms y.2.2.1.1.2.2.2) := h 5 (by decide)
    have h6 : Is (whys x.2.2.1.2) (whys y.2.2.1.2) := h 6 (by decide)
    have h7 : Is (ints x.2.2.2.1) (ints y.2.2.2.1) := h 7 (by decide)
    have h8 : Is (st x.2.2.2.2.1.1) (st y.2.2.2.2.1.1) := h 8 (by decide)
    have h9 : Is (terms x.2.2.2.2.1.2) (terms y.2.2.2.2.1.2) := h 9 (by decide)
    have h10 : Is (st x.2.2.2.2.2.1) (st y.2.2.2.2.2.1) := h 10 (by decide)
    have h11 : Is (terms x.2.2.2.2.2.2) (terms y.2.2.2.2.2.2) := h 11 (by decide)
    simp only [Is_i64, Is_u8, Is_bl, Is_st, Is_ints, Is_bools, Is_strs, Is_intss, Is_terms, Is_whys] at h0 h1 h2 h3 h4 h5 h6 h7 h8 h9 h10 h11
    grind
  · rintro rfl j hj
    match j, hj with
    | 0, _ => show Is (i64 x.1) (i64 x.1); simp
    | 1, _ => show Is (i64 x.2.1) (i64 x.2.1); simp
    | 2, _ => show Is (i64 x.2.2.1.1.1) (i64 x.2.2.1.1.1); simp
    | 3, _ => show Is (i64 x.2.2.1.1.2.1) (i64 x.2.2.1.1.2.1); simp
    | 4, _ => show Is (st x.2.2.1.1.2.2.1) (st x.2.2.1.1.2.2.1); simp
    | 5, _ => show Is (terms x.2.2.1.1.2.2.2) (terms x.2.2.1.1.2.2.2); simp
    | 6, _ => show Is (whys x.2.2.1.2) (whys x.2.2.1.2); simp
    | 7, _ => show Is (ints x.2.2.2.1) (ints x.2.2.2.1); simp
    | 8, _ => show Is (st x.2.2.2.2.1.1) (st x.2.2.2.2.1.1); simp
    | 9, _ => show Is (terms x.2.2.2.2.1.2) (terms x.2.2.2.2.1.2); simp
    | 10, _ => show Is (st x.2.2.2.2.2.1) (st x.2.2.2.2.2.1); simp
    | 11, _ => show Is (terms x.2.2.2.2.2.2) (terms x.2.2.2.2.2.2); simp
def subC (t : Cse) : Nat → Nat → AV := subTr 12 ePC t
def eC (t : Cse) (j : Nat) : AV := match j with
  | 0 => i64 t.val.1
  | 1 => i64 t.val.2.1
  | 2 => i64 t.val.2.2.1.1.1
  | 3 => i64 t.val.2.2.1.1.2.1
  | 4 => st t.val.2.2.1.1.2.2.1
  | 5 => terms t.val.2.2.1.1.2.2.2
  | 6 => whys t.val.2.2.1.2
  | 7 => ints t.val.2.2.2.1
  | 8 => st t.val.2.2.2.2.1.1
  | 9 => terms t.val.2.2.2.2.1.2
  | 10 => st t.val.2.2.2.2.2.1
  | 11 => terms t.val.2.2.2.2.2.2
  | _ => .sl t.kids.length 13 (subC t)
theorem eC_tr (t : Cse) : ∀ j, j < 13 → eC t j = eTr 12 ePC t j
  | 0, _ => (eTr_lt (k := 12) (e := ePC) (t := t) (j := 0) (by decide)).symm
  | 1, _ => (eTr_lt (k := 12) (e := ePC) (t := t) (j := 1) (by decide)).symm
  | 2, _ => (eTr_lt (k := 12) (e := ePC) (t := t) (j := 2) (by decide)).symm
  | 3, _ => (eTr_lt (k := 12) (e := ePC) (t := t) (j := 3) (by decide)).symm
  | 4, _ => (eTr_lt (k := 12) (e := ePC) (t := t) (j := 4) (by decide)).symm
  | 5, _ => (eTr_lt (k := 12) (e := ePC) (t := t) (j := 5) (by decide)).symm
  | 6, _ => (eTr_lt (k := 12) (e := ePC) (t := t) (j := 6) (by decide)).symm
  | 7, _ => (eTr_lt (k := 12) (e := ePC) (t := t) (j := 7) (by decide)).symm
  | 8, _ => (eTr_lt (k := 12) (e := ePC) (t := t) (j := 8) (by decide)).symm
  | 9, _ => (eTr_lt (k := 12) (e := ePC) (t := t) (j := 9) (by decide)).symm
  | 10, _ => (eTr_lt (k := 12) (e := ePC) (t := t) (j := 10) (by decide)).symm
  | 11, _ => (eTr_lt (k := 12) (e := ePC) (t := t) (j := 11) (by decide)).symm
  | 12, _ => (eTr_kids (k := 12) (e := ePC) (t := t)).symm
theorem EncN.eC : EncN 13 eC := fun x y => by
  rw [← EncN.tr EncN.ePC x y]
  exact ⟨fun h j hj => by rw [← eC_tr x j hj, ← eC_tr y j hj]; exact h j hj, fun h j hj => by rw [eC_tr x j hj, eC_tr y j hj]; exact h j hj⟩
def kidsC (t : Cse) : AV := .sl t.kids.length 13 (subC t)
def cC (l : List Cse) : Nat → Nat → AV := fun i j => eC (l.getD i dC) j
def cases (l : List Cse) : AV := .sl l.length 13 fun i j => eC (l.getD i dC) j
def arC (l : List Cse) : AObj := .arr l.length 13 fun i j => eC (l.getD i dC) j
theorem Enc.cases : Enc cases := Enc.sln (by decide) EncN.eC dC
@[simp] theorem Is_cases {x y : List Cse} : Is (cases x) (cases y) ↔ x = y := Enc.cases x y
@[simp] theorem IsO_cases {x y : List Cse} : IsO (arC x) (arC y) ↔ y = [] ∨ x = y := IsO_arn EncN.eC
@[simp] theorem IsO_cases0 {n : Nat} {c : Nat → Nat → AV} : IsO (.arr n 13 c) (arC []) := IsO_nil
@[simp] theorem cases_nil {q : Nat} {c : Nat → Nat → AV} {m : List Cse} : Is (.lit 0 q c) (cases m) ↔ m = [] := nil_sln
@[simp] theorem cases_nilA {m : List Cse} : Is nilA (cases m) ↔ m = [] := nil_sln
@[simp] theorem cases_join {l m : List Cse} : IsO (.arr (l.length + m.length) 13 (joinC l.length (cC l) (cC m))) (arC (l ++ m)) := IsO_join EncN.eC (IsR_cel EncN.eC)
@[simp] theorem cases_join0 {m : List Cse} {c : Nat → Nat → AV} : IsO (.arr (0 + m.length) 13 (joinC 0 c (cC m))) (arC m) := IsO_join0 EncN.eC (IsR_cel EncN.eC)
@[simp] theorem cases_join0' {m : List Cse} {c : Nat → Nat → AV} : IsO (.arr m.length 13 (joinC 0 c (cC m))) (arC m) := IsO_join0 EncN.eC (IsR_cel EncN.eC)
@[simp] theorem Is_kidsC {t : Cse} {m : List Cse} : Is (kidsC t) (cases m) ↔ t.kids = m :=
  Is_sl_iff2 (d := dC) (by decide) (fun x _ y => EncN.eC x y) (fun i hi j hj => by rw [eC_tr _ j hj]; exact subTr_get dC t i hi j) (fun i _ j _ => rfl)
@[simp] theorem Is_cases_kidsC {t : Cse} {m : List Cse} : Is (cases m) (kidsC t) ↔ m = t.kids :=
  Is_sl_iff2 (d := dC) (by decide) (fun x _ y => EncN.eC x y) (fun i _ j _ => rfl) (fun i hi j hj => by rw [eC_tr _ j hj]; exact subTr_get dC t i hi j)
@[simp] theorem Is_kidsC2 {t u : Cse} : Is (kidsC t) (kidsC u) ↔ t.kids = u.kids :=
  Is_sl_iff2 (d := dC) (by decide) (fun x _ y => EncN.eC x y) (fun i hi j hj => by rw [eC_tr _ j hj]; exact subTr_get dC t i hi j) (fun i hi j hj => by rw [eC_tr _ j hj]; exact subTr_get dC u i hi j)
def atomA (x : Atm) : AV := .agg [i64 x.1, st x.2.1.1, terms x.2.1.2, st x.2.2.1.1, terms x.2.2.1.2, terms x.2.2.2.1, ints x.2.2.2.2.1, i64 x.2.2.2.2.2.1, bl x.2.2.2.2.2.2]
def litA (x : Ltr) : AV := .agg [i64 x.1.1, st x.1.2.1.1, terms x.1.2.1.2, st x.1.2.2.1.1, terms x.1.2.2.1.2, terms x.1.2.2.2.1, ints x.1.2.2.2.2.1, i64 x.1.2.2.2.2.2.1, bl x.1.2.2.2.2.2.2, bl x.2]
def formA (x : FP) : AV := .agg [i64 x.1.1, i64 x.1.2.1.1, st x.1.2.1.2.1.1, terms x.1.2.1.2.1.2, st x.1.2.1.2.2.1.1, terms x.1.2.1.2.2.1.2, terms x.1.2.1.2.2.2.1, ints x.1.2.1.2.2.2.2.1, i64 x.1.2.1.2.2.2.2.2.1, bl x.1.2.1.2.2.2.2.2.2, bl x.1.2.2, forms x.2]
def whyA (x : WP) : AV := .agg [i64 x.1.1, i64 x.1.2.1, st x.1.2.2.1, terms x.1.2.2.2, whys x.2]
def caseA (x : CP) : AV := .agg [i64 x.1.1, i64 x.1.2.1, i64 x.1.2.2.1.1.1, i64 x.1.2.2.1.1.2.1, st x.1.2.2.1.1.2.2.1, terms x.1.2.2.1.1.2.2.2, whys x.1.2.2.1.2, ints x.1.2.2.2.1, st x.1.2.2.2.2.1.1, terms x.1.2.2.2.2.1.2, st x.1.2.2.2.2.2.1, terms x.1.2.2.2.2.2.2, cases x.2]
abbrev MlA (x : Atm) : Prop := MlT (.mk x.2.1.1 x.2.1.2) ∧ MlT (.mk x.2.2.1.1 x.2.2.1.2) ∧ (Ml x.2.2.2.1 ∧ ∀ t ∈ x.2.2.2.1, MlT t) ∧ Ml x.2.2.2.2.1
abbrev MlF (t : Frm) : Prop := AllTr (fun u => MlA u.val.2.1 ∧ Ml u.kids) t
abbrev MlW (t : Wy) : Prop := AllTr (fun u => MlT (.mk u.val.2.2.1 u.val.2.2.2) ∧ Ml u.kids) t
abbrev MlC (t : Cse) : Prop := AllTr (fun u => MlW (.mk u.val.2.2.1.1 u.val.2.2.1.2) ∧ Ml u.val.2.2.2.1 ∧ MlT (.mk u.val.2.2.2.2.1.1 u.val.2.2.2.2.1.2) ∧ MlT (.mk u.val.2.2.2.2.2.1 u.val.2.2.2.2.2.2) ∧ Ml u.kids) t
abbrev SmA (x : Atm) : Prop := costA x ≤ 1048576
abbrev SmTr {α : Type} (f : α → Nat) (t : Tree α) : Prop := costTr f t ≤ 1048576
abbrev SmTrs {α : Type} (f : α → Nat) (l : List (Tree α)) : Prop := l.length + costTrs f l ≤ 1048576
def A_sTSame (a b : TP) : List Ann :=
  [.mk Nat (fun x => x ≤ a.2.length ∧ a.2.length = b.2.length ∧ a.1 = b.1 ∧ (a.2 = b.2 ↔ a.2.drop x = b.2.drop x)) (fun x => { fr := pad [.any, .any, .ptr 0 0, .ptr 1 0, .any, i64 x] 39, H := [.var [st a.1, terms a.2], .var [st b.1, terms b.2]] }) (fun x => a.2.length - x) (fun _ => [])]
def A_sAtomSame (a b : Atm) : List Ann :=
  [.mk Nat (fun x => x ≤ a.2.2.2.1.length ∧ a.2.2.2.1.length = b.2.2.2.1.length ∧ (a = b ↔ a.2.2.2.2.1 = b.2.2.2.2.1 ∧ a.2.2.2.1.drop x = b.2.2.2.1.drop x) ∧ a.2.2.2.2.1.length = b.2.2.2.2.1.length) (fun x => { fr := pad [.any, .any, .ptr 0 0, .ptr 1 0, .any, i64 x] 97, H := [.var [i64 a.1, st a.2.1.1, terms a.2.1.2, st a.2.2.1.1, terms a.2.2.1.2, terms a.2.2.2.1, ints a.2.2.2.2.1, i64 a.2.2.2.2.2.1, bl a.2.2.2.2.2.2], .var [i64 b.1, st b.2.1.1, terms b.2.1.2, st b.2.2.1.1, terms b.2.2.1.2, terms b.2.2.2.1, ints b.2.2.2.2.1, i64 b.2.2.2.2.2.1, bl b.2.2.2.2.2.2]] }) (fun x => a.2.2.2.1.length - x) (fun _ => []),
   .mk Nat (fun x => x ≤ a.2.2.2.2.1.length ∧ a.2.2.2.2.1.length = b.2.2.2.2.1.length ∧ (a = b ↔ a.2.2.2.2.1.drop x = b.2.2.2.2.1.drop x)) (fun x => { fr := pad [.any, .any, .ptr 0 0, .ptr 1 0, .any, .any, i64 x] 97, H := [.var [i64 a.1, st a.2.1.1, terms a.2.1.2, st a.2.2.1.1, terms a.2.2.1.2, terms a.2.2.2.1, ints a.2.2.2.2.1, i64 a.2.2.2.2.2.1, bl a.2.2.2.2.2.2], .var [i64 b.1, st b.2.1.1, terms b.2.1.2, st b.2.2.1.1, terms b.2.2.1.2, terms b.2.2.2.1, ints b.2.2.2.2.1, i64 b.2.2.2.2.2.1, bl b.2.2.2.2.2.2]] }) (fun x => a.2.2.2.2.1.length - x) (fun _ => [])]
def A_szWhyS (l : List Wy) (k : Int) : List Ann :=
  [.mk Nat (fun x => x ≤ l.length ∧ 0 ≤ k - l.length - costTrs costPW (l.take x)) (fun x => { fr := pad [whys l, i64 (k - l.length - costTrs costPW (l.take x)), .any, .any, .any, i64 x] 27, H := [] }) (fun x => l.length - x) (fun _ => [])]
def A_toWhyS (l : List Wy) : List Ann :=
  [.mk (Nat × List Wy) (fun x => x.1 ≤ l.length ∧ x.2.length = l.length ∧ x.2.take x.1 = l.take x.1) (fun x => { fr := pad [whys l, .any, .any, .osl 0 0 x.2.length, i64 x.1] 23, H := [arW x.2] }) (fun x => l.length - x.1) (fun _ => [])]
def A_eqWhyS (l m : List Wy) : List Ann :=
  [.mk Nat (fun x => x ≤ l.length ∧ l.length = m.length ∧ (l = m ↔ l.drop x = m.drop x)) (fun x => { fr := pad [whys l, whys m, .any, .any, .any, i64 x] 27, H := [] }) (fun x => l.length - x) (fun _ => [])]
def A_sWhySame (a b : WP) : List Ann :=
  [.mk Nat (fun x => x ≤ a.2.length ∧ a.2.length = b.2.length ∧ a.1 = b.1 ∧ (a.2 = b.2 ↔ a.2.drop x = b.2.drop x)) (fun x => { fr := pad [.any, .any, .ptr 0 0, .ptr 1 0, .any, i64 x] 54, H := [.var [i64 a.1.1, i64 a.1.2.1, st a.1.2.2.1, terms a.1.2.2.2, whys a.2], .var [i64 b.1.1, i64 b.1.2.1, st b.1.2.2.1, terms b.1.2.2.2, whys b.2]] }) (fun x => a.2.length - x) (fun _ => [])]
def A_szFormS (l : List Frm) (k : Int) : List Ann :=
  [.mk Nat (fun x => x ≤ l.length ∧ 0 ≤ k - l.length - costTrs costPF (l.take x)) (fun x => { fr := pad [forms l, i64 (k - l.length - costTrs costPF (l.take x)), .any, .any, .any, i64 x] 27, H := [] }) (fun x => l.length - x) (fun _ => [])]
def A_toFormS (l : List Frm) : List Ann :=
  [.mk (Nat × List Frm) (fun x => x.1 ≤ l.length ∧ x.2.length = l.length ∧ x.2.take x.1 = l.take x.1) (fun x => { fr := pad [forms l, .any, .any, .osl 0 0 x.2.length, i64 x.1] 23, H := [arF x.2] }) (fun x => l.length - x.1) (fun _ => [])]
def A_eqFormS (l m : List Frm) : List Ann :=
  [.mk Nat (fun x => x ≤ l.length ∧ l.length = m.length ∧ (l = m ↔ l.drop x = m.drop x)) (fun x => { fr := pad [forms l, forms m, .any, .any, .any, i64 x] 27, H := [] }) (fun x => l.length - x) (fun _ => [])]
def A_sFormSame (a b : FP) : List Ann :=
  [.mk Nat (fun x => x ≤ a.2.length ∧ a.2.length = b.2.length ∧ a.1 = b.1 ∧ (a.2 = b.2 ↔ a.2.drop x = b.2.drop x)) (fun x => { fr := pad [.any, .any, .ptr 0 0, .ptr 1 0, .any, i64 x] 58, H := [.var [i64 a.1.1, i64 a.1.2.1.1, st a.1.2.1.2.1.1, terms a.1.2.1.2.1.2, st a.1.2.1.2.2.1.1, terms a.1.2.1.2.2.1.2, terms a.1.2.1.2.2.2.1, ints a.1.2.1.2.2.2.2.1, i64 a.1.2.1.2.2.2.2.2.1, bl a.1.2.1.2.2.2.2.2.2, bl a.1.2.2, forms a.2], .var [i64 b.1.1, i64 b.1.2.1.1, st b.1.2.1.2.1.1, terms b.1.2.1.2.1.2, st b.1.2.1.2.2.1.1, terms b.1.2.1.2.2.1.2, terms b.1.2.1.2.2.2.1, ints b.1.2.1.2.2.2.2.1, i64 b.1.2.1.2.2.2.2.2.1, bl b.1.2.1.2.2.2.2.2.2, bl b.1.2.2, forms b.2]] }) (fun x => a.2.length - x) (fun _ => [])]
def A_szCaseS (l : List Cse) (k : Int) : List Ann :=
  [.mk Nat (fun x => x ≤ l.length ∧ 0 ≤ k - l.length - costTrs costPC (l.take x)) (fun x => { fr := pad [cases l, i64 (k - l.length - costTrs costPC (l.take x)), .any, .any, .any, i64 x] 27, H := [] }) (fun x => l.length - x) (fun _ => [])]
def A_toCaseS (l : List Cse) : List Ann :=
  [.mk (Nat × List Cse) (fun x => x.1 ≤ l.length ∧ x.2.length = l.length ∧ x.2.take x.1 = l.take x.1) (fun x => { fr := pad [cases l, .any, .any, .osl 0 0 x.2.length, i64 x.1] 23, H := [arC x.2] }) (fun x => l.length - x.1) (fun _ => [])]
def A_eqCaseS (l m : List Cse) : List Ann :=
  [.mk Nat (fun x => x ≤ l.length ∧ l.length = m.length ∧ (l = m ↔ l.drop x = m.drop x)) (fun x => { fr := pad [cases l, cases m, .any, .any, .any, i64 x] 27, H := [] }) (fun x => l.length - x) (fun _ => [])]
def A_sCaseSame (a b : CP) : List Ann :=
  [.mk Nat (fun x => x ≤ a.2.length ∧ a.2.length = b.2.length ∧ a.1 = b.1 ∧ (a.2 = b.2 ↔ a.2.drop x = b.2.drop x)) (fun x => { fr := pad [.any, .any, .ptr 0 0, .ptr 1 0, .any, i64 x] 78, H := [.var [i64 a.1.1, i64 a.1.2.1, i64 a.1.2.2.1.1.1, i64 a.1.2.2.1.1.2.1, st a.1.2.2.1.1.2.2.1, terms a.1.2.2.1.1.2.2.2, whys a.1.2.2.1.2, ints a.1.2.2.2.1, st a.1.2.2.2.2.1.1, terms a.1.2.2.2.2.1.2, st a.1.2.2.2.2.2.1, terms a.1.2.2.2.2.2.2, cases a.2], .var [i64 b.1.1, i64 b.1.2.1, i64 b.1.2.2.1.1.1, i64 b.1.2.2.1.1.2.1, st b.1.2.2.1.1.2.2.1, terms b.1.2.2.1.1.2.2.2, whys b.1.2.2.1.2, ints b.1.2.2.2.1, st b.1.2.2.2.2.1.1, terms b.1.2.2.2.2.1.2, st b.1.2.2.2.2.2.1, terms b.1.2.2.2.2.2.2, cases b.2]] }) (fun x => a.2.length - x) (fun _ => [])]
end Cg

/-
  Models: how they lie in cells; sizes, copies, equality. No condition.
-/
set_option linter.unusedVariables false
set_option linter.unusedSimpArgs false
namespace Pl
abbrev Rt := Int × Int
abbrev Rw := ByteArray × List Rt × Rt
abbrev Mdl := List Rw
noncomputable instance instRw : DecidableEq Rw := fun a b => Classical.propDecidable (a = b)
def dQ : Rt := (0, 0)
def dR : Rw := (ByteArray.empty, [], 0, 0)
def costR (x : Rw) : Nat := x.1.size + x.2.1.length
def costM (m : Mdl) : Nat := m.length + sumN costR m
end Pl
namespace Cg
open Go Pl
def eQ (x : Rt) (j : Nat) : AV := match j with
  | 0 => i64 x.1
  | _ => i64 x.2
theorem EncN.eQ : EncN 2 eQ := fun x y => by
  constructor
  · intro h
    have h0 : Is (i64 x.1) (i64 y.1) := h 0 (by decide)
    have h1 : Is (i64 x.2) (i64 y.2) := h 1 (by decide)
    simp only [Is_i64, Is_u8, Is_bl, Is_st, Is_ints, Is_bools, Is_strs, Is_intss] at h0 h1
    grind
  · rintro rfl j hj
    match j, hj with
    | 0, _ => show Is (i64 x.1) (i64 x.1); simp
    | 1, _ => show Is (i64 x.2) (i64 x.2); simp
def cQ (l : List Rt) : Nat → Nat → AV := fun i j => eQ (l.getD i dQ) j
def rats (l : List Rt) : AV := .sl l.length 2 fun i j => eQ (l.getD i dQ) j
def arQ (l : List Rt) : AObj := .arr l.length 2 fun i j => eQ (l.getD i dQ) j
theorem Enc.rats : Enc rats := Enc.sln (by decide) EncN.eQ dQ
@[simp] theorem Is_rats {x y : List Rt} : Is (rats x) (rats y) ↔ x = y := Enc.rats x y
@[simp] theorem IsO_rats {x y : List Rt} : IsO (arQ x) (arQ y) ↔ y = [] ∨ x = y := IsO_arn EncN.eQ
@[simp] theorem IsO_rats0 {n : Nat} {c : Nat → Nat → AV} : IsO (.arr n 2 c) (arQ []) := IsO_nil
@[simp] theorem rats_nil {q : Nat} {c : Nat → Nat → AV} {m : List Rt} : Is (.lit 0 q c) (rats m) ↔ m = [] := nil_sln
@[simp] theorem rats_nilA {m : List Rt} : Is nilA (rats m) ↔ m = [] := nil_sln
@[simp] theorem rats_join {l m : List Rt} : IsO (.arr (l.length + m.length) 2 (joinC l.length (cQ l) (cQ m))) (arQ (l ++ m)) := IsO_join EncN.eQ (IsR_cel EncN.eQ)
@[simp] theorem rats_join0 {m : List Rt} {c : Nat → Nat → AV} : IsO (.arr (0 + m.length) 2 (joinC 0 c (cQ m))) (arQ m) := IsO_join0 EncN.eQ (IsR_cel EncN.eQ)
@[simp] theorem rats_join0' {m : List Rt} {c : Nat → Nat → AV} : IsO (.arr m.length 2 (joinC 0 c (cQ m))) (arQ m) := IsO_join0 EncN.eQ (IsR_cel EncN.eQ)
def eR (x : Rw) (j : Nat) : AV := match j with
  | 0 => st x.1
  | 1 => rats x.2.1
  | 2 => i64 x.2.2.1
  | _ => i64 x.2.2.2
theorem EncN.eR : EncN 4 eR := fun x y => by
  constructor
  · intro h
    have h0 : Is (st x.1) (st y.1) := h 0 (by decide)
    have h1 : Is (rats x.2.1) (rats y.2.1) := h 1 (by decide)
    have h2 : Is (i64 x.2.2.1) (i64 y.2.2.1) := h 2 (by decide)
    have h3 : Is (i64 x.2.2.2) (i64 y.2.2.2) := h 3 (by decide)
    simp only [Is_i64, Is_u8, Is_bl, Is_st, Is_ints, Is_bools, Is_strs, Is_intss, Is_rats] at h0 h1 h2 h3
    grind
  · rintro rfl j hj
    match j, hj with
    | 0, _ => show Is (st x.1) (st x.1); simp
    | 1, _ => show Is (rats x.2.1) (rats x.2.1); simp
    | 2, _ => show Is (i64 x.2.2.1) (i64 x.2.2.1); simp
    | 3, _ => show Is (i64 x.2.2.2) (i64 x.2.2.2); simp
def cR (l : List Rw) : Nat → Nat → AV := fun i j => eR (l.getD i dR) j
def mrows (l : List Rw) : AV := .sl l.length 4 fun i j => eR (l.getD i dR) j
def arR (l : List Rw) : AObj := .arr l.length 4 fun i j => eR (l.getD i dR) j
theorem Enc.mrows : Enc mrows := Enc.sln (by decide) EncN.eR dR
@[simp] theorem Is_mrows {x y : List Rw} : Is (mrows x) (mrows y) ↔ x = y := Enc.mrows x y
@[simp] theorem IsO_mrows {x y : List Rw} : IsO (arR x) (arR y) ↔ y = [] ∨ x = y := IsO_arn EncN.eR
@[simp] theorem IsO_mrows0 {n : Nat} {c : Nat → Nat → AV} : IsO (.arr n 4 c) (arR []) := IsO_nil
@[simp] theorem mrows_nil {q : Nat} {c : Nat → Nat → AV} {m : List Rw} : Is (.lit 0 q c) (mrows m) ↔ m = [] := nil_sln
@[simp] theorem mrows_nilA {m : List Rw} : Is nilA (mrows m) ↔ m = [] := nil_sln
@[simp] theorem mrows_join {l m : List Rw} : IsO (.arr (l.length + m.length) 4 (joinC l.length (cR l) (cR m))) (arR (l ++ m)) := IsO_join EncN.eR (IsR_cel EncN.eR)
@[simp] theorem mrows_join0 {m : List Rw} {c : Nat → Nat → AV} : IsO (.arr (0 + m.length) 4 (joinC 0 c (cR m))) (arR m) := IsO_join0 EncN.eR (IsR_cel EncN.eR)
@[simp] theorem mrows_join0' {m : List Rw} {c : Nat → Nat → AV} : IsO (.arr m.length 4 (joinC 0 c (cR m))) (arR m) := IsO_join0 EncN.eR (IsR_cel EncN.eR)
theorem Is_rowQ {a b : Int} : ∀ j, j < 2 → Is ([i64 a, i64 b].getD j .any) (eQ (a, b) j) := fun j hj => by
  match j, hj with
  | 0, _ => exact (Enc.i64 a a).2 rfl
  | 1, _ => exact (Enc.i64 b b).2 rfl
@[simp] theorem rats_set {l : List Rt} {i : Nat} {a b : Int} : IsO (.arr l.length 2 (storeC (cQ l) i 0 [i64 a, i64 b])) (arQ (l.set i (a, b))) := IsO_set EncN.eQ rfl Is_rowQ
@[simp] theorem rats_make {n : Nat} : IsO (.arr n 2 (fun _ j => [i64 0, i64 0].getD j .any)) (arQ (List.replicate n dQ)) := IsO_make EncN.eQ Is_rowQ
theorem rats_row (a b : Int) : IsR 2 eQ dQ (rowsCell [[i64 a, i64 b]]) [(a, b)] := IsR_row EncN.eQ Is_rowQ
@[simp] theorem rats_push {l : List Rt} {a b : Int} : IsO (.arr (l.length + 1) 2 (joinC l.length (cQ l) (rowsCell [[i64 a, i64 b]]))) (arQ (l ++ [(a, b)])) := IsO_join EncN.eQ (rats_row a b)
@[simp] theorem rats_push0 {a b : Int} {c : Nat → Nat → AV} : IsO (.arr (0 + 1) 2 (joinC 0 c (rowsCell [[i64 a, i64 b]]))) (arQ [(a, b)]) := IsO_join0 EncN.eQ (rats_row a b)
@[simp] theorem rats_push1 {a b : Int} {c : Nat → Nat → AV} : IsO (.arr 1 2 (joinC 0 c (rowsCell [[i64 a, i64 b]]))) (arQ [(a, b)]) := IsO_join0 EncN.eQ (rats_row a b)
theorem Is_rowR {a : ByteArray} {l : List Rt} {c d : Int} {b : AV} (hb : Is b (rats l)) : ∀ j, j < 4 → Is ([st a, b, i64 c, i64 d].getD j .any) (eR (a, l, c, d) j) := fun j hj => by
  match j, hj with
  | 0, _ => exact (Enc.st a a).2 rfl
  | 1, _ => exact hb
  | 2, _ => exact (Enc.i64 c c).2 rfl
  | 3, _ => exact (Enc.i64 d d).2 rfl
@[simp] theorem mrows_set {l : List Rw} {i : Nat} {a : ByteArray} {b : List Rt} {c d : Int} : IsO (.arr l.length 4 (storeC (cR l) i 0 [st a, rats b, i64 c, i64 d])) (arR (l.set i (a, b, c, d))) := IsO_set EncN.eR rfl (Is_rowR ((Enc.rats b b).2 rfl))
@[simp] theorem mrows_make {n : Nat} : IsO (.arr n 4 (fun _ j => [st ByteArray.empty, nilA, i64 0, i64 0].getD j .any)) (arR (List.replicate n dR)) := IsO_make EncN.eR (Is_rowR (rats_nilA.2 rfl))
def ratA (x : Rt) : AV := .agg [i64 x.1, i64 x.2]
def rowA (x : Rw) : AV := .agg [st x.1, rats x.2.1, i64 x.2.2.1, i64 x.2.2.2]
def modelA (m : Mdl) : AV := .agg [mrows m]
abbrev MlR (x : Rw) : Prop := x.1.size ≤ 9223372036854775807 ∧ x.2.1.length ≤ 9223372036854775807
abbrev MlM (m : Mdl) : Prop := m.length ≤ 9223372036854775807 ∧ ∀ x ∈ m, MlR x
abbrev SmM (m : Mdl) : Prop := costM m ≤ 1048576
def K_l7Rats : Nat × Contract := (Nm.spec_l7Rats, .sc (List Rt × List Rt) (fun x => [rats x.1, rats x.2]) (fun x => Sz x.1) fun x => bl (decide (x.1 = x.2)))
def A_szRowS (l : Mdl) (k : Int) : List Ann :=
  [.mk Nat (fun x => x ≤ l.length ∧ 0 ≤ k - l.length - sumN costR (l.take x)) (fun x => { fr := pad [mrows l, i64 (k - l.length - sumN costR (l.take x)), .any, .any, .any, i64 x] 27, H := [] }) (fun x => l.length - x) (fun _ => [])]
def A_toRatS (l : List Rt) : List Ann :=
  [.mk (Nat × List Rt) (fun x => x.1 ≤ l.length ∧ x.2.length = l.length ∧ x.2.take x.1 = l.take x.1) (fun x => { fr := pad [rats l, .any, .any, .osl 0 0 x.2.length, i64 x.1] 23, H := [arQ x.2] }) (fun x => l.length - x.1) (fun _ => [])]
def A_toRowS (l : Mdl) : List Ann :=
  [.mk (Nat × Mdl) (fun x => x.1 ≤ l.length ∧ x.2.length = l.length ∧ x.2.take x.1 = l.take x.1) (fun x => { fr := pad [mrows l, .any, .any, .osl 0 0 x.2.length, i64 x.1] 23, H := [arR x.2] }) (fun x => l.length - x.1) (fun _ => [])]
def A_eqRatS (l m : List Rt) : List Ann :=
  [.mk Nat (fun x => x ≤ l.length ∧ l.length = m.length ∧ (l = m ↔ l.drop x = m.drop x)) (fun x => { fr := pad [rats l, rats m, .any, .any, .any, i64 x] 27, H := [] }) (fun x => l.length - x) (fun _ => [])]
def A_eqRowS (l m : Mdl) : List Ann :=
  [.mk Nat (fun x => x ≤ l.length ∧ l.length = m.length ∧ (l = m ↔ l.drop x = m.drop x)) (fun x => { fr := pad [mrows l, mrows m, .any, .any, .any, i64 x] 27, H := [] }) (fun x => l.length - x) (fun _ => [])]
def A_l7Rats (l m : List Rt) : List Ann :=
  [.mk Nat (fun x => x ≤ l.length ∧ l.length = m.length ∧ (l = m ↔ l.drop x = m.drop x)) (fun x => { fr := pad [rats l, rats m, .any, .any, .any, i64 x] 26, H := [] }) (fun x => l.length - x) (fun _ => [])]
def A_EqualRats (l m : List Rt) : List Ann :=
  [.mk Nat (fun x => x ≤ l.length ∧ l.length = m.length ∧ (l = m ↔ l.drop x = m.drop x)) (fun x => { fr := pad [rats l, rats m, .any, .any, .any, .any, .any, .any, .any, .any, .any, rats l, i64 l.length, i64 x] 26, H := [] }) (fun x => l.length - x) (fun _ => [])]
def A_sModelSame (l m : Mdl) : List Ann :=
  [.mk Nat (fun x => x ≤ l.length ∧ l.length = m.length ∧ (l = m ↔ l.drop x = m.drop x)) (fun x => { fr := pad [.any, .any, .ptr 0 0, .ptr 1 0, .any, i64 x] 64, H := [.var [mrows l], .var [mrows m]] }) (fun x => l.length - x) (fun _ => [])]
end Cg

/-
  Plain functions, and what is known of the codes' callees and loops: valid models. No condition.
-/
namespace Pl
open Go
def abs1 (n : Int) : Int := if n < -1000000000 ∨ n > 1000000000 then 1000000001 else if n < 0 then -n else n
def ratOk (x : Rt) : Bool := decide (-1000000000 ≤ x.1) && decide (x.1 ≤ 1000000000) && (decide (1 ≤ x.2) && decide (x.2 ≤ 1000000000)) && decide (Nat.gcd x.1.natAbs x.2.natAbs = 1)
def ratLess (a b : Rt) : Bool := ratOk a && ratOk b && decide (a.1 * b.2 < b.1 * a.2)
def cmpRat (a b : Rt) : Int := if ratLess a b = true then -1 else if ratLess b a = true then 1 else 0
def rowOk (x : Rw) : Bool := nameOk x.1 && decide (x.2.1.length ≤ 2) && ratOk x.2.2 && x.2.1.all ratOk
def argsLess : List Rt → List Rt → Bool
  | x :: xs, y :: ys => if x = y then argsLess xs ys else ratLess x y
  | _, _ => false
def rowLess (a b : Rw) : Bool := if a.1 = b.1 then (if a.2.1.length = b.2.1.length then argsLess a.2.1 b.2.1 else decide (a.2.1.length < b.2.1.length)) else sLess a.1 b.1
def cmpArgs : List Rt → List Rt → Int
  | [], [] => 0
  | [], _ :: _ => -1
  | _ :: _, [] => 1
  | x :: xs, y :: ys => if cmpRat x y = 0 then cmpArgs xs ys else cmpRat x y
def cmpS (a b : ByteArray) : Int := if sLess a b = true then -1 else if sLess b a = true then 1 else 0
def cmpI (a b : Int) : Int := if a < b then -1 else if a > b then 1 else 0
def orI : List Int → Int
  | [] => 0
  | x :: xs => if x = 0 then orI xs else x
def cmpRows (a b : Rw) : Int := orI [cmpS a.1 b.1, cmpI a.2.1.length b.2.1.length, cmpArgs a.2.1 b.2.1]
def beforeR (p : Option Rw) (x : Rw) : Bool := match p with
  | none => true
  | some q => rowLess q x
def mL : Option Rw → List Rw → Bool
  | _, [] => true
  | p, x :: xs => rowOk x && beforeR p x && mL (some x) xs
def prevR (m : Mdl) (k : Nat) : Option Rw := if k = 0 then none else some (m.getD (k - 1) dR)
def mRight (m : Mdl) : Bool := mL none m && decide (m.length ≤ 40)
def suit (a : Rt) (n : Int) : Bool := decide (n = 1) || decide (a.2 = 1)
def fit (a : Rt) (n : Int) : Bool := ratOk a && suit a n
def fitL : List Rt → List Int → Bool
  | a :: qs, n :: ns => fit a n && fitL qs ns
  | _, _ => true
def rowFits (s : Sig) (r : Rw) : Bool := (find s r.1).isSome && decide ((symOf s r.1).2.1.length = r.2.1.length) && fit r.2.2 (symOf s r.1).2.2 && fitL r.2.1 (symOf s r.1).2.1
def modelOk (s : Sig) (m : Mdl) : Bool := sigOk s && mRight m && m.all (rowFits s)
end Pl
namespace Cg
open Go Pl
def K_l1Abs : Nat × Contract := (Nm.spec_l1Abs, .sc Int (fun x => [i64 x]) (fun _ => True) fun x => i64 (abs1 x))
def K_l1Gcd : Nat × Contract := (Nm.spec_l1Gcd, .sc (Nat × Nat) (fun x => [i64 x.1, i64 x.2]) (fun x => x.1 ≤ 4611686018427387904 ∧ x.2 ≤ 4611686018427387904) fun x => i64 (Nat.gcd x.1 x.2))
def K_gcd : Nat × Contract := (Nm.impl_gcd, .sc (Int × Int) (fun x => [i64 x.1, i64 x.2]) (fun x => x.1.natAbs ≤ 4611686018427387904 ∧ x.2.natAbs ≤ 4611686018427387904) fun x => i64 (Nat.gcd x.1.natAbs x.2.natAbs))
def K_sRatOk : Nat × Contract := (Nm.spec_RatOk, .sc Rt (fun x => [ratA x]) (fun _ => True) fun x => bl (ratOk x))
def K_iRatOk : Nat × Contract := (Nm.impl_RatOk, .sc Rt (fun x => [ratA x]) (fun _ => True) fun x => bl (ratOk x))
def K_sRatLess : Nat × Contract := (Nm.spec_RatLess, .sc (Rt × Rt) (fun x => [ratA x.1, ratA x.2]) (fun _ => True) fun x => bl (ratLess x.1 x.2))
def K_iRatLess : Nat × Contract := (Nm.impl_RatLess, .sc (Rt × Rt) (fun x => [ratA x.1, ratA x.2]) (fun _ => True) fun x => bl (ratLess x.1 x.2))
def K_compareRats : Nat × Contract := (Nm.impl_compareRats, .sc (Rt × Rt) (fun x => [ratA x.1, ratA x.2]) (fun _ => True) fun x => i64 (cmpRat x.1 x.2))
def K_l7Row : Nat × Contract := (Nm.spec_l7Row, .sc Rw (fun x => [rowA x]) (fun x => x.1.size ≤ 1048576 ∧ x.2.1.length ≤ 1048576) fun x => bl (rowOk x))
def K_l7Less : Nat × Contract := (Nm.spec_l7Less, .sc (Rw × Rw) (fun x => [rowA x.1, rowA x.2]) (fun x => x.1.2.1.length ≤ 1048576) fun x => bl (rowLess x.1 x.2))
def K_l7Right : Nat × Contract := (Nm.spec_l7Right, .sc Mdl (fun x => [modelA x]) SmM fun x => bl (mRight x))
def K_l7Fit : Nat × Contract := (Nm.spec_l7Fit, .sc (Rt × Int) (fun x => [ratA x.1, i64 x.2]) (fun _ => True) fun x => bl (fit x.1 x.2))
def K_sModelOk : Nat × Contract := (Nm.spec_ModelOk, .sc (Sig × Mdl) (fun x => [sigA x.1, modelA x.2]) (fun x => SmG x.1 ∧ SmM x.2) fun x => bl (modelOk x.1 x.2))
def K_RowOk1 : Nat × Contract := (Nm.impl_Row_ok_1, .sc Rt (fun x => [ratA x]) (fun _ => True) fun x => bl (!ratOk x))
def K_IndexRat : Nat × Contract := (Nm.slices_IndexFunc_Simpl_Rat_impl_Rat, .sc (List Rt) (fun x => [rats x, .fn (.func Nm.impl_Row_ok_1) []]) (fun x => Sz x) fun x => i64 (idx (fun y => !ratOk y) x))
def K_ContainsRat : Nat × Contract := (Nm.slices_ContainsFunc_Simpl_Rat_impl_Rat, .sc (List Rt) (fun x => [rats x, .fn (.func Nm.impl_Row_ok_1) []]) (fun x => Sz x) fun x => bl (x.any fun y => !ratOk y))
def K_rowOk : Nat × Contract := (Nm.impl_Row_ok, .sc Rw (fun x => [rowA x]) (fun x => x.1.size ≤ 1048576 ∧ x.2.1.length ≤ 1048576) fun x => bl (rowOk x))
def K_isNaNS : Nat × Contract := (Nm.cmp_isNaN_string, .sc ByteArray (fun x => [st x]) (fun _ => True) fun _ => bl false)
def K_isNaNI : Nat × Contract := (Nm.cmp_isNaN_int, .sc Int (fun x => [i64 x]) (fun _ => True) fun _ => bl false)
def K_CompareS : Nat × Contract := (Nm.cmp_Compare_string, .sc (ByteArray × ByteArray) (fun x => [st x.1, st x.2]) (fun _ => True) fun x => i64 (cmpS x.1 x.2))
def K_CompareI : Nat × Contract := (Nm.cmp_Compare_int, .sc (Int × Int) (fun x => [i64 x.1, i64 x.2]) (fun _ => True) fun x => i64 (cmpI x.1 x.2))
def K_Or : Nat × Contract := (Nm.cmp_Or_int, .sc (List Int) (fun x => [ints x]) Sz fun x => i64 (orI x))
def K_CompareFunc : Nat × Contract := (Nm.slices_CompareFunc_Simpl_Rat_Simpl_Rat_impl_Rat_impl_Rat, .sc (List Rt × List Rt) (fun x => [rats x.1, rats x.2, .fn (.func Nm.impl_compareRats) []]) (fun x => Sz x.1 ∧ Sz x.2) fun x => i64 (cmpArgs x.1 x.2))
def K_compareRows : Nat × Contract := (Nm.impl_compareRows, .sc (Rw × Rw) (fun x => [rowA x.1, rowA x.2]) (fun x => Sz x.1.2.1 ∧ Sz x.2.2.1) fun x => i64 (cmpRows x.1 x.2))
def K_iModel : Nat × Contract := (Nm.impl_Model_ok, .sc Mdl (fun x => [modelA x]) SmM fun x => bl (mRight x))
def K_suits : Nat × Contract := (Nm.impl_suits, .sc (Rt × Int) (fun x => [ratA x.1, i64 x.2]) (fun _ => True) fun x => bl (suit x.1 x.2))
def K_iModelOk : Nat × Contract := (Nm.impl_ModelOk, .sc (Sig × Mdl) (fun x => [sigA x.1, modelA x.2]) (fun x => SmG x.1 ∧ SmM x.2) fun x => bl (modelOk x.1 x.2))
def A_l1Gcd (a b : Nat) : List Ann :=
  [.mk (Nat × Nat) (fun x => x.1 ≤ 4611686018427387904 ∧ x.2 ≤ 4611686018427387904 ∧ Nat.gcd x.1 x.2 = Nat.gcd a b) (fun x => { fr := pad [i64 x.1, i64 x.2] 12, H := [] }) (fun x => x.2) (fun _ => [])]
def A_gcd (a b : Int) : List Ann :=
  [.mk (Nat × Nat) (fun x => x.1 ≤ 4611686018427387904 ∧ x.2 ≤ 4611686018427387904 ∧ Nat.gcd x.1 x.2 = Nat.gcd a.natAbs b.natAbs) (fun x => { fr := pad [i64 x.1, i64 x.2] 20, H := [] }) (fun x => x.2) (fun _ => [])]
def A_l7Row (r : Rw) : List Ann :=
  [.mk Nat (fun x => x ≤ r.2.1.length ∧ r.2.1.all ratOk = (r.2.1.drop x).all ratOk) (fun x => { fr := pad [.any, .ptr 0 0, .any, i64 x] 32, H := [.var [st r.1, rats r.2.1, i64 r.2.2.1, i64 r.2.2.2]] }) (fun x => r.2.1.length - x) (fun _ => [])]
def A_l7Less (a b : Rw) : List Ann :=
  [.mk Nat (fun x => x ≤ a.2.1.length ∧ a.2.1.length = b.2.1.length ∧ rowLess a b = argsLess (a.2.1.drop x) (b.2.1.drop x)) (fun x => { fr := pad [.any, .any, .ptr 0 0, .ptr 1 0, .any, i64 x] 59, H := [.var [st a.1, rats a.2.1, i64 a.2.2.1, i64 a.2.2.2], .var [st b.1, rats b.2.1, i64 b.2.2.1, i64 b.2.2.2]] }) (fun x => a.2.1.length - x) (fun _ => [])]
def A_l7Right (m : Mdl) : List Ann :=
  [.mk Nat (fun x => x ≤ m.length ∧ mL none m = mL (prevR m x) (m.drop x)) (fun x => { fr := pad [.any, .ptr 0 0, .any, i64 x] 41, H := [.var [mrows m]] }) (fun x => m.length - x) (fun _ => [])]
def A_sModelOk (s : Sig) (m : Mdl) : List Ann :=
  [.mk Nat (fun x => x ≤ m.length ∧ modelOk s m = (m.drop x).all (rowFits s)) (fun x => { fr := pad [.any, .any, .ptr 0 0, .ptr 1 0, .any, i64 x] 85, H := [.var [syms s], .var [mrows m]] }) (fun x => m.length - x)
    (fun x => [.mk Nat (fun j => x < m.length ∧ j ≤ (m.getD x dR).2.1.length ∧ (symOf s (m.getD x dR).1).2.1.length = (m.getD x dR).2.1.length ∧ rowFits s (m.getD x dR) = fitL ((m.getD x dR).2.1.drop j) ((symOf s (m.getD x dR).1).2.1.drop j))
      (fun j => { fr := pad [.any, .any, .ptr 0 0, .ptr 1 0, .any, i64 x, .ptr 2 0, .any, i64 j] 85, H := [.var [syms s], .var [mrows m], .var [st (symOf s (m.getD x dR).1).1, ints (symOf s (m.getD x dR).1).2.1, i64 (symOf s (m.getD x dR).1).2.2]] }) (fun j => (m.getD x dR).2.1.length - j) (fun _ => [])])]
def A_IndexRat (l : List Rt) : List Ann :=
  [.mk Nat (fun x => x ≤ l.length ∧ idx (fun y => !ratOk y) l = if idx (fun y => !ratOk y) (l.drop x) < 0 then -1 else idx (fun y => !ratOk y) (l.drop x) + x)
    (fun x => { fr := pad [rats l, .fn (.func Nm.impl_Row_ok_1) [], .any, .any, .any, .any, .any, i64 l.length, i64 x] 19, H := [] }) (fun x => l.length - x) (fun _ => [])]
def A_Or (l : List Int) : List Ann :=
  [.mk Nat (fun x => x ≤ l.length ∧ orI l = orI (l.drop x)) (fun x => { fr := pad [.any, .any, .any, i64 0, .any, .any, ints l, i64 l.length, i64 x] 18, H := [] }) (fun x => l.length - x) (fun _ => [])]
def A_CompareFunc (l m : List Rt) : List Ann :=
  [.mk Nat (fun x => x ≤ l.length ∧ x ≤ m.length ∧ cmpArgs l m = cmpArgs (l.drop x) (m.drop x))
    (fun x => { fr := pad [rats l, rats m, .fn (.func Nm.impl_compareRats) [], .any, .any, .any, .any, .any, .any, .any, .any, rats l, i64 l.length, i64 x] 39, H := [] }) (fun x => l.length - x) (fun _ => [])]
def A_iModel (m : Mdl) : List Ann :=
  [.mk Nat (fun x => x ≤ m.length ∧ mL none m = mL (prevR m x) (m.drop x) ∧ (x ≠ 0 → rowOk (m.getD (x - 1) dR) = true)) (fun x => { fr := pad [.any, .ptr 0 0, .any, .any, .any, .any, .any, .any, .any, .any, mrows m, i64 m.length, i64 x] 36, H := [.var [mrows m]] }) (fun x => m.length - x) (fun _ => [])]
def A_iModelOk (s : Sig) (m : Mdl) : List Ann :=
  [.mk Nat (fun x => x ≤ m.length ∧ modelOk s m = (m.drop x).all (rowFits s) ∧ mL none m = true) (fun x => { fr := pad [.any, .any, .ptr 0 0, .ptr 1 0, .any, .any, .any, .any, .any, .any, .any, .any, .any, .any, .any, .any, .any, .any, .any, .any, mrows m, i64 m.length, i64 x] 70, H := [.var [syms s], .var [mrows m]] }) (fun x => m.length - x)
    (fun x => [.mk Nat (fun j => x < m.length ∧ j ≤ (m.getD x dR).2.1.length ∧ (symOf s (m.getD x dR).1).2.1.length = (m.getD x dR).2.1.length ∧ rowFits s (m.getD x dR) = fitL ((m.getD x dR).2.1.drop j) ((symOf s (m.getD x dR).1).2.1.drop j))
      (fun j => { fr := pad ([.any, .any, .ptr 0 0, .ptr 1 0, .any, .any, .any, .ptr 2 0, .any, .any, .any, .any, .any, .any, .any, .any, .any, .any, .any, .any, mrows m, i64 m.length, i64 x] ++ List.replicate 30 .any ++ [rats (m.getD x dR).2.1, i64 (m.getD x dR).2.1.length, i64 j]) 70, H := [.var [syms s], .var [mrows m], .var [st (symOf s (m.getD x dR).1).1, ints (symOf s (m.getD x dR).1).2.1, i64 (symOf s (m.getD x dR).1).2.2]] }) (fun j => (m.getD x dR).2.1.length - j) (fun _ => [])])]
end Cg

/-
  Plain functions, and what is known of the codes' callees and loops: unit propagation. No condition.
-/
namespace Pl
/-- 1, if a mark is put as it is wanted, -1, if the other way, else 0. -/
def at_ (n : Int) : List Int → Int
  | [] => 0
  | p :: r => if p = n then 1 else if p = wneg n then -1 else at_ n r
def leftL (put : List Int) : List Int → Nat → Int → Nat × Int
  | [], n, l => (n, l)
  | x :: xs, n, l => if at_ x put = 1 then (2, 0) else if at_ x put = 0 then leftL put xs (n + 1) (if n = 0 then x else l) else leftL put xs n l
def left (put c : List Int) : Nat × Int := leftL put c 0 0
/-- The first clause that is falsified, or that makes a mark true. -/
def scanS (put : List Int) : List (List Int) → Option (Option Int)
  | [] => none
  | c :: cs => if (left put c).1 = 0 then some none else if (left put c).1 = 1 then some (some (left put c).2) else scanS put cs
def unitsF (scan : List Int → List (List Int) → Option (Option Int)) (list : List (List Int)) : Nat → List Int → List Int × Bool
  | 0, put => (put, false)
  | k + 1, put => match scan put list with
    | none => (put, false)
    | some none => (put, true)
    | some (some l) => unitsF scan list k (put ++ [l])
def unitsS (list : List (List Int)) (put : List Int) : List Int × Bool := unitsF scanS list 61 put
def unitL (put : List Int) : List Int → Int → Nat → Int × Bool
  | [], f, k => (if k > 1 then 0 else f, decide (k = 0))
  | x :: xs, f, k => if put.contains x then (0, false) else if put.contains (wneg x) then unitL put xs f k else unitL put xs x (k + 1)
def unit (c put : List Int) : Int × Bool := unitL put c 0 0
def scanI (put : List Int) : List (List Int) → Option (Option Int)
  | [] => none
  | c :: cs => if (unit c put).2 then some none else if (unit c put).1 ≠ 0 then some (some (unit c put).1) else scanI put cs
def unitsI (list : List (List Int)) (put : List Int) : List Int × Bool := unitsF scanI list 61 put
def nots (l : List Int) : List Int := l.map wneg
/-- How many variables are not put yet. -/
def uncov (put : List Int) : Nat := ((List.range 60).filter fun (v : Nat) => !(put.contains ((v : Int) + 1) || put.contains (-((v : Int) + 1)))).length
/-- Nothing is put both ways. -/
def Cons (put : List Int) : Prop := ∀ x ∈ put, x ≠ 0 ∧ -60 ≤ x ∧ x ≤ 60 ∧ -x ∉ put
def sumLen {α : Type} : List (List α) → Int
  | [] => 0
  | x :: xs => x.length + sumLen xs
def rup (c : Cnf) (cl : List Int) : Bool := cnfOk c && specClause cl c.1 && (unitsS c.2 (nots cl)).2
def logAll (c : Cnf) (log : List (List Int)) (i : Nat) : Bool := (List.range' i (log.length - i)).all fun j => rup (c.1, c.2 ++ log.take j) (log.getD j [])
def logOk (c : Cnf) (log : List (List Int)) : Bool := cnfOk c && decide (log.length ≤ 130) && decide (c.2.length + log.length ≤ 400) && logAll c log 0
end Pl
namespace Cg
open Go
abbrev SzH {α : Type} (l : List α) : Prop := l.length ≤ 2147483648
def A_l10At (l : List Int) (n : Int) : List Ann :=
  [.mk Nat (fun x => x ≤ l.length ∧ Pl.at_ n l = Pl.at_ n (l.drop x)) (fun x => { fr := pad [ints l, i64 n, .any, .any, .any, i64 x] 25, H := [] }) (fun x => l.length - x) (fun _ => [])]
def A_l10Left (put c : List Int) : List Ann :=
  [.mk (Nat × Nat × Int) (fun x => x.1 ≤ c.length ∧ x.2.1 ≤ x.1 ∧ Pl.left put c = Pl.leftL put (c.drop x.1) x.2.1 x.2.2) (fun x => { fr := pad [ints put, ints c, .any, .any, .any, .any, i64 x.2.1, i64 x.2.2, i64 x.1] 35, H := [] }) (fun x => c.length - x.1) (fun _ => [])]
def A_l10Units (c : Pl.Cnf) (put : List Int) : List Ann :=
  [.mk (Nat × Nat × List Int) (fun x => x.1 ≤ c.2.length ∧ Pl.unitsS c.2 put = Pl.unitsF Pl.scanS c.2 x.2.1 x.2.2 ∧ Pl.uncov x.2.2 < x.2.1 ∧ Pl.scanS x.2.2 c.2 = Pl.scanS x.2.2 (c.2.drop x.1) ∧ x.2.2.length + x.2.1 = put.length + 61)
    (fun x => { fr := pad [.any, ints put, .ptr 0 0, .any, .any, .any, .osl 1 0 x.2.2.length, i64 x.1] 40, H := [.var [i64 c.1, intss c.2], arI x.2.2] }) (fun x => x.2.1 * (c.2.length + 1) + (c.2.length - x.1)) (fun _ => [])]
def A_l10Nots (l : List Int) : List Ann :=
  [.mk (Nat × List Int) (fun x => x.1 ≤ l.length ∧ x.2.length = x.1 ∧ Pl.nots l = x.2 ++ Pl.nots (l.drop x.1)) (fun x => { fr := pad [ints l, .any, .any, .osl 0 0 x.2.length, i64 x.1] 21, H := [arI x.2] }) (fun x => l.length - x.1) (fun _ => [])]
def A_Index (l : List Int) (n : Int) : List Ann :=
  [.mk Nat (fun x => x ≤ l.length ∧ Pl.idx (fun y => decide (n = y)) l = if Pl.idx (fun y => decide (n = y)) (l.drop x) < 0 then -1 else Pl.idx (fun y => decide (n = y)) (l.drop x) + x)
    (fun x => { fr := pad [ints l, i64 n, .any, .any, .any, .any, .any, i64 l.length, i64 x] 19, H := [] }) (fun x => l.length - x) (fun _ => [])]
def A_unit (c put : List Int) : List Ann :=
  [.mk (Nat × Int × Nat) (fun x => x.1 ≤ c.length ∧ x.2.2 ≤ x.1 ∧ Pl.unit c put = Pl.unitL put (c.drop x.1) x.2.1 x.2.2) (fun x => { fr := pad [ints c, ints put, .any, .any, .any, .any, i64 x.2.1, i64 x.2.2, .any, .any, ints c, i64 c.length, i64 x.1] 35, H := [] }) (fun x => c.length - x.1) (fun _ => [])]
def A_units (list : List (List Int)) (put : List Int) : List Ann :=
  [.mk (Nat × List Int) (fun x => Pl.unitsI list put = Pl.unitsF Pl.scanI list x.1 x.2 ∧ Pl.uncov x.2 < x.1 ∧ x.2.length + x.1 = put.length + 61)
    (fun x => { fr := pad [intss list, ints put, .any, .any, .any, .any, .osl 0 0 x.2.length] 39, H := [arI x.2] }) (fun x => x.1)
    (fun x => [.mk Nat (fun i => i ≤ list.length ∧ Pl.scanI x.2 list = Pl.scanI x.2 (list.drop i))
      (fun i => { fr := pad [intss list, ints put, .any, .any, .any, .any, .osl 0 0 x.2.length, i64 0, .any, .any, .any, .any, .any, .any, intss list, i64 list.length, i64 i] 39, H := [arI x.2] }) (fun i => list.length - i) (fun _ => [])])]
def A_negated (l : List Int) : List Ann :=
  [.mk (Nat × List Int) (fun x => x.1 ≤ l.length ∧ x.2.length = x.1 ∧ Pl.nots l = x.2 ++ Pl.nots (l.drop x.1)) (fun x => { fr := pad [ints l, .any, .any, .osl 0 0 x.2.length, .any, .any, ints l, i64 l.length, i64 x.1] 19, H := [arI x.2] }) (fun x => l.length - x.1) (fun _ => [])]
def A_ConcatII (ls : List (List (List Int))) : List Ann :=
  [.mk Nat (fun x => x ≤ ls.length) (fun x => { fr := pad [intsss ls, .any, .any, i64 (Pl.sumLen (ls.take x)), .any, .any, .any, .any, .any, intsss ls, i64 ls.length, i64 x] 36, H := [] }) (fun x => ls.length - x) (fun _ => []),
   .mk (Nat × List (List Int)) (fun x => x.1 ≤ ls.length ∧ Eqq x.2 (ls.take x.1).flatten) (fun x => { fr := pad [intsss ls, .any, .any, .any, .any, .any, .osl 0 0 x.2.length, .any, .any, .any, .any, .any, .any, .any, .any, .any, .any, .any, .any, .any, .any, .any, .any, .any, .any, intsss ls, i64 ls.length, i64 x.1] 36, H := [arII x.2] }) (fun x => ls.length - x.1) (fun _ => [])]
def A_sLogOk (c : Pl.Cnf) (log : List (List Int)) : List Ann :=
  [.mk (Nat × List (List Int)) (fun x => x.1 ≤ log.length ∧ Eqq x.2 (c.2 ++ log.take x.1) ∧ Pl.logOk c log = Pl.logAll c log x.1) (fun x => { fr := pad [.any, intss log, .any, .any, .any, .ptr 0 0, i64 x.1] 53, H := [.var [i64 c.1, .osl 1 0 x.2.length], arII x.2] }) (fun x => log.length - x.1) (fun _ => [])]
def A_iLogOk (c : Pl.Cnf) (log : List (List Int)) : List Ann :=
  [.mk Nat (fun x => x ≤ log.length ∧ Pl.logOk c log = Pl.logAll c log x) (fun x => { fr := pad [.any, intss log, .ptr 0 0, .any, .any, .ptr 1 0, .any, .any, .any, .any, .any, .any, .any, .any, .any, .any, .any, .any, .any, .any, .any, .any, .any, .any, .any, .any, .any, .any, .any, .any, .any, .any, .any, intss log, i64 log.length, i64 x] 55, H := [.var [i64 c.1, intss c.2], .var [i64 c.1, intss (c.2 ++ log)]] }) (fun x => log.length - x) (fun _ => [])]
end Cg

/-
  Plain functions, and what is known of the codes' callees and loops: drawn clause sets. No condition.
-/
namespace Pl
/-- One more mark in order; false, if it is there the other way. -/
def putS : List Int → Int → List Int × Bool
  | [], n => ([n], true)
  | x :: xs, n => if absW x < absW n then (x :: (putS xs n).1, (putS xs n).2) else if absW x = absW n then (x :: xs, decide (x = n)) else (n :: x :: xs, true)
def badMark (x : Int) : Bool := decide (x = 0) || decide (absW x > 60)
def clauseL : List Int → List Int → List Int × Bool
  | [], out => (out, true)
  | x :: xs, out => if (putS out x).2 then clauseL xs (putS out x).1 else ([], false)
def clauseOf (l : List Int) : List Int × Bool := if l.any badMark then ([], false) else clauseL l []
def rightS (many : Int) : List Int → List Int → Bool
  | _, [] => true
  | done, x :: xs => !(decide (x = 0) || decide (absW x > many) || decide (at_ x done ≠ 0)) && rightS many (done ++ [x]) xs
def rightI (many : Int) : List Int → List Int → Bool
  | _, [] => true
  | done, x :: xs => !(!isMark x many || done.contains x || done.contains (wneg x)) && rightI many (done ++ [x]) xs
def cnfUnits (c : Cnf) (put : List Int) : List Int × Bool := if cnfOk c && rightS c.1 [] put then unitsS c.2 put else ([], false)
end Pl
namespace Cg
open Go
/-- A reader over some bytes, at a place up to a bound. -/
def Rd (m : Int) (b : List Int) (p : Int) : Prop := b.length ≤ 2000 ∧ (∀ x ∈ b, 0 ≤ x ∧ x < 256) ∧ 0 ≤ p ∧ p ≤ m
def Byt (b : List Int) : Prop := ∀ x ∈ b, 0 ≤ x ∧ x < 256
/-- A small clause set. -/
def Sm (c : Pl.Cnf) : Prop := c.1 ≤ 61 ∧ c.2.length ≤ 100 ∧ ∀ x ∈ c.2, x.length ≤ 100
def rdO (b : List Int) (p : Int) : AObj := .var [byts b, i64 p]

def K_l16Open : Nat × Contract := (Nm.spec_l16Open, .eff (List Int) (fun b => ⟨[byts b], []⟩) (fun b => Sz b ∧ Byt b) (List Int) (fun _ y => Rd 0 y 0) fun _ y => (.ptr 0 0, [.var [byts y, i64 0]]))
def K_pick : Nat × Contract := (Nm.spec_l16Rd_pick, .eff (List Int × Int × Int) (fun x => ⟨[.ptr 0 0, i64 x.2.2], [.var [byts x.1, i64 x.2.1]]⟩) (fun x => Rd 1099511627776 x.1 x.2.1) Int (fun x y => (1 ≤ x.2.2 → 0 ≤ y ∧ y < x.2.2) ∧ (x.2.2 < 1 → y = 0)) fun x y => (i64 y, [.var [byts x.1, i64 (x.2.1 + 1)]]))
def K_num : Nat × Contract := (Nm.spec_l16Rd_num, .eff (List Int × Int × List Int) (fun x => ⟨[.ptr 0 0, ints x.2.2], [.var [byts x.1, i64 x.2.1]]⟩) (fun x => Rd 1099511627776 x.1 x.2.1 ∧ x.2.2 ≠ [] ∧ Sz x.2.2) Int (fun x y => y ∈ x.2.2) fun x y => (i64 y, [.var [byts x.1, i64 (x.2.1 + 1)]]))
def A_l10Marks (b : List Int) (p many n : Int) : List Ann :=
  [.mk (Nat × List Int × Int) (fun x => x.2.1.length = x.1 ∧ ((x.1 : Int) ≤ n ∨ x.1 = 0) ∧ p ≤ x.2.2 ∧ x.2.2 ≤ p + 3 * x.1) (fun x => { fr := pad [.ptr 0 0, i64 many, i64 n, .any, .any, .any, .any, .osl 1 0 x.2.1.length, i64 x.1] 22, H := [.var [byts b, i64 x.2.2], arI x.2.1] }) (fun x => (n - x.1).toNat) (fun _ => [])]
def A_l10Vals (b : List Int) (p many : Int) : List Ann :=
  [.mk (Nat × List Bool × Int) (fun x => x.2.1.length = x.1 ∧ ((x.1 : Int) ≤ many ∨ x.1 = 0) ∧ p ≤ x.2.2 ∧ x.2.2 ≤ p + x.1) (fun x => { fr := pad [.ptr 0 0, i64 many, .any, .any, .any, .osl 1 0 x.2.1.length, i64 x.1] 26, H := [.var [byts b, i64 x.2.2], arB x.2.1] }) (fun x => (many - x.1).toNat) (fun _ => [])]
def A_l10Put (l : List Int) (n : Int) : List Ann :=
  [.mk Nat (fun x => x ≤ l.length ∧ Pl.putS l n = (l.take x ++ (Pl.putS (l.drop x) n).1, (Pl.putS (l.drop x) n).2)) (fun x => { fr := pad [ints l, i64 n, .any, .any, .any, .any, i64 x] 60, H := [] }) (fun x => l.length - x) (fun _ => [])]
def A_sClauseOf (l : List Int) : List Ann :=
  [.mk Nat (fun x => x ≤ l.length ∧ l.any Pl.badMark = (l.drop x).any Pl.badMark) (fun x => { fr := pad [ints l, .any, .any, .any, nilA, i64 x] 50, H := [] }) (fun x => l.length - x) (fun _ => []),
   .mk (Nat × List Int) (fun x => x.1 ≤ l.length ∧ Pl.clauseOf l = Pl.clauseL (l.drop x.1) x.2 ∧ x.2.length ≤ x.1) (fun x => { fr := pad [ints l, .any, .any, .any, ints x.2, .any, i64 x.1] 50, H := [] }) (fun x => l.length - x.1) (fun _ => [])]
def A_l10Cnf (b : List Int) (p : Int) : List Ann :=
  [.mk (Int × Int × List (List Int) × Int) (fun x => 0 ≤ x.1 ∧ x.2.2.1.length + x.1 ≤ 12 ∧ x.2.1 ≤ 6 ∧ (∀ y ∈ x.2.2.1, y.length ≤ 100) ∧ p ≤ x.2.2.2 ∧ x.2.2.2 ≤ p + 2 + 400 * (12 - x.1))
    (fun x => { fr := pad [.ptr 0 0, .any, .ptr 1 0, .ptr 2 0, i64 x.1] 61, H := [.var [byts b, i64 x.2.2.2], .var [i64 0, nilA], .var [i64 x.2.1, .osl 3 0 x.2.2.1.length], arII x.2.2.1] }) (fun x => x.1.toNat) (fun _ => [])]
def A_wpNums (l m : List Int) : List Ann :=
  [.mk Nat (fun x => x ≤ l.length ∧ l.length = m.length ∧ (l = m ↔ l.drop x = m.drop x)) (fun x => { fr := pad [ints l, ints m, .any, .any, .any, i64 x] 26, H := [] }) (fun x => l.length - x) (fun _ => [])]
def A_l10Right (l : List Int) (many : Int) : List Ann :=
  [.mk Nat (fun x => x ≤ l.length ∧ Pl.rightS many [] l = Pl.rightS many (l.take x) (l.drop x)) (fun x => { fr := pad [ints l, i64 many, .any, .any, .any, i64 x] 37, H := [] }) (fun x => l.length - x) (fun _ => [])]
def A_iCnfUnits (c : Pl.Cnf) (put : List Int) : List Ann :=
  [.mk Nat (fun x => x ≤ put.length ∧ Pl.rightI c.1 [] put = Pl.rightI c.1 (put.take x) (put.drop x)) (fun x => { fr := pad [.any, ints put, .ptr 0 0, .any, .any, .any, .any, .any, .any, .any, .any, ints put, i64 put.length, i64 x] 45, H := [.var [i64 c.1, intss c.2]] }) (fun x => put.length - x) (fun _ => [])]
def A_yCnfIs (code : List Int) : List Ann :=
  [.mk (Pl.Cnf × List Bool × Nat × Bool × Bool) (fun x => Sm x.1 ∧ x.2.1.length ≤ 101 ∧ x.2.2.1 ≤ x.1.2.length ∧ x.2.2.2.2 = Pl.cnfIs x.1 x.2.1 ∧ (Pl.cnfIs x.1 x.2.1 = (x.2.2.2.1 && (x.1.2.drop x.2.2.1).all fun y => Pl.clauseIs y x.2.1)))
    (fun x => { fr := pad [.any, byts code, .any, .any, .any, .ptr 0 0, bools x.2.1, bl x.2.2.2.2, bl x.2.2.2.1, i64 x.2.2.1] 90, H := [.var [i64 x.1.1, intss x.1.2]] }) (fun x => x.1.2.length - x.2.2.1) (fun _ => [])]
def A_yCnfRup : List Ann :=
  [.mk (Pl.Cnf × List Int × Pl.Cnf × List Bool × Nat) (fun x => Sm x.1 ∧ x.2.1.length ≤ 101 ∧ Sm x.2.2.1 ∧ x.2.2.2.1.length ≤ 101 ∧ x.2.2.2.2 ≤ x.1.2.length)
    (fun x => { fr := pad [.any, .any, .any, .ptr 0 0, ints x.2.1, .ptr 1 0, bools x.2.2.2.1, bl (Pl.rup x.1 x.2.1), i64 x.2.2.2.2] 73, H := [.var [i64 x.1.1, intss x.1.2], .var [i64 x.2.2.1.1, intss x.2.2.1.2]] }) (fun x => x.1.2.length - x.2.2.2.2) (fun _ => [])]
end Cg

/-
  Plain functions, and what is known of the codes' callees and loops: drawn models. No condition.
-/
set_option linter.unusedVariables false
set_option linter.unusedSimpArgs false
namespace Pl
/-- A row, and its values' slice itself. -/
abbrev HRw := Go.Value × Rw
def dH : HRw := (Go.undef, dR)
end Pl
namespace Cg
open Go Pl
def hdQ (h : Value) (l : List Rt) : AV := .hdr h l.length 2 (cQ l)
def eRH (x : HRw) (j : Nat) : AV := match j with
  | 0 => st x.2.1
  | 1 => hdQ x.1 x.2.2.1
  | 2 => i64 x.2.2.2.1
  | _ => i64 x.2.2.2.2
@[simp] theorem Is_hdQ {h h' : Value} {l l' : List Rt} : Is (hdQ h l) (hdQ h' l') ↔ h = h' ∧ l = l' := by
  have e : Is (rats l) (rats l') ↔ l = l' := Is_rats
  unfold rats at e
  rw [Is] at e
  unfold hdQ
  rw [Is]
  exact and_congr_right fun _ => e
@[simp] theorem Is_hdQ_rats {h : Value} {l l' : List Rt} : Is (hdQ h l) (rats l') ↔ l = l' := by
  have e : Is (rats l) (rats l') ↔ l = l' := Is_rats
  unfold rats at e ⊢
  rw [Is] at e
  unfold hdQ
  rw [Is]
  exact e
theorem EncN.eRH : EncN 4 eRH := fun x y => by
  constructor
  · intro h
    have h0 : Is (st x.2.1) (st y.2.1) := h 0 (by decide)
    have h1 : Is (hdQ x.1 x.2.2.1) (hdQ y.1 y.2.2.1) := h 1 (by decide)
    have h2 : Is (i64 x.2.2.2.1) (i64 y.2.2.2.1) := h 2 (by decide)
    have h3 : Is (i64 x.2.2.2.2) (i64 y.2.2.2.2) := h 3 (by decide)
    simp only [Is_i64, Is_st, Is_hdQ] at h0 h1 h2 h3
    exact Prod.ext h1.1 (Prod.ext h0 (Prod.ext h1.2 (Prod.ext h2 h3)))
  · rintro rfl j hj
    match j, hj with
    | 0, _ => show Is (st x.2.1) (st x.2.1); simp
    | 1, _ => show Is (hdQ x.1 x.2.2.1) (hdQ x.1 x.2.2.1); exact Is_hdQ.2 ⟨rfl, rfl⟩
    | 2, _ => show Is (i64 x.2.2.2.1) (i64 x.2.2.2.1); simp
    | 3, _ => show Is (i64 x.2.2.2.2) (i64 x.2.2.2.2); simp
def cRH (l : List HRw) : Nat → Nat → AV := fun i j => eRH (l.getD i dH) j
def arRH (l : List HRw) : AObj := .arr l.length 4 fun i j => eRH (l.getD i dH) j
@[simp] theorem IsO_arRH {x y : List HRw} : IsO (arRH x) (arRH y) ↔ y = [] ∨ x = y := IsO_arn EncN.eRH
/-- Rows whose values' slices are owned too. -/
def xrR (l : List Rw) : AObj := .xarr l.length 4 fun i j => eR (l.getD i dR) j
def rowB (b : AV) (r : Rw) : AV := .agg [st r.1, b, i64 r.2.2.1, i64 r.2.2.2]
/-- Rows by their places, the last one being new. -/
def HPut (n : Nat) (y : List Nat) : Prop := y.length ≤ n + 1 ∧ y.Nodup ∧ ∀ i ∈ y, i ≤ n
def K_l7Put : Nat × Contract := (Nm.spec_l7Put, .eff (List HRw × HRw) (fun x => ⟨[.osl 0 0 x.1.length, rowB (hdQ x.2.1 x.2.2.2.1) x.2.2], [arRH x.1]⟩) (fun x => x.1.length ≤ 1000 ∧ (∀ y ∈ x.1, y.2.2.1.length ≤ 1000) ∧ x.2.2.2.1.length ≤ 1000) (List Nat) (fun x y => HPut x.1.length y)
  fun x y => (.osl 1 0 y.length, [.dead, arRH (y.map fun i => (x.1 ++ [x.2]).getD i dH)]))
def K_l7PutX : Nat × Contract := (Nm.spec_l7Put, .eff (List Rw × Rw) (fun x => ⟨[.osl 0 0 x.1.length, rowB (.osl 1 0 x.2.2.1.length) x.2], [xrR x.1, arQ x.2.2.1]⟩) (fun x => x.1.length ≤ 1000 ∧ (∀ y ∈ x.1, y.2.1.length ≤ 1000) ∧ x.2.2.1.length ≤ 1000) (List Nat) (fun x y => HPut x.1.length y)
  fun x y => (.osl 2 0 y.length, [.dead, .dead, xrR (y.map fun i => (x.1 ++ [x.2]).getD i dR)]))
def A_l7Put (L : List HRw) (r : HRw) : List Ann :=
  [.mk Nat (fun x => x ≤ L.length) (fun x => { fr := pad [.osl 0 0 L.length, .any, .any, .ptr 1 0, .any, i64 x] 61, H := [arRH L, .var [st r.2.1, hdQ r.1 r.2.2.1, i64 r.2.2.2.1, i64 r.2.2.2.2]] }) (fun x => L.length - x) (fun _ => [])]
end Cg

/-
  Lists of literals: how they lie in cells; sizes, copies, equality. No condition.
-/
set_option linter.unusedVariables false
set_option linter.unusedSimpArgs false
namespace Pl
def dL : Ltr := ((0, (ByteArray.empty, []), (ByteArray.empty, []), [], [], 0, false), false)
def costLs (l : List Ltr) : Nat := l.length + sumN costL l
end Pl
namespace Cg
open Go Pl
def eL (x : Ltr) (j : Nat) : AV := match j with
  | 0 => i64 x.1.1
  | 1 => st x.1.2.1.1
  | 2 => terms x.1.2.1.2
  | 3 => st x.1.2.2.1.1
  | 4 => terms x.1.2.2.1.2
  | 5 => terms x.1.2.2.2.1
  | 6 => ints x.1.2.2.2.2.1
  | 7 => i64 x.1.2.2.2.2.2.1
  | 8 => bl x.1.2.2.2.2.2.2
  | _ => bl x.2
theorem EncN.eL : EncN 10 eL := fun x y => by
  constructor
  · intro h
    have h0 : Is (i64 x.1.1) (i64 y.1.1) := h 0 (by decide)
    have h1 : Is (st x.1.2.1.1) (st y.1.2.1.1) := h 1 (by decide)
    have h2 : Is (terms x.1.2.1.2) (terms y.1.2.1.2) := h 2 (by decide)
    have h3 : Is (st x.1.2.2.1.1) (st y.1.2.2.1.1) := h 3 (by decide)
    have h4 : Is (terms x.1.2.2.1.2) (terms y.1.2.2.1.2) := h 4 (by decide)
    have h5 : Is (terms x.1.2.2.2.1) (terms y.1.2.2.2.1) := h 5 (by decide)
    have h6 : Is (ints x.1.2.2.2.2.1) (ints y.1.2.2.2.2.1) := h 6 (by decide)
    have h7 : Is (i64 x.1.2.2.2.2.2.1) (i64 y.1.2.2.2.2.2.1) := h 7 (by decide)
    have h8 : Is (bl x.1.2.2.2.2.2.2) (bl y.1.2.2.2.2.2.2) := h 8 (by decide)
    have h9 : Is (bl x.2) (bl y.2) := h 9 (by decide)
    simp only [Is_i64, Is_u8, Is_bl, Is_st, Is_ints, Is_bools, Is_strs, Is_intss, Is_terms] at h0 h1 h2 h3 h4 h5 h6 h7 h8 h9
    grind
  · rintro rfl j hj
    match j, hj with
    | 0, _ => show Is (i64 x.1.1) (i64 x.1.1); simp
    | 1, _ => show Is (st x.1.2.1.1) (st x.1.2.1.1); simp
    | 2, _ => show Is (terms x.1.2.1.2) (terms x.1.2.1.2); simp
    | 3, _ => show Is (st x.1.2.2.1.1) (st x.1.2.2.1.1); simp
    | 4, _ => show Is (terms x.1.2.2.1.2) (terms x.1.2.2.1.2); simp
    | 5, _ => show Is (terms x.1.2.2.2.1) (terms x.1.2.2.2.1); simp
    | 6, _ => show Is (ints x.1.2.2.2.2.1) (ints x.1.2.2.2.2.1); simp
    | 7, _ => show Is (i64 x.1.2.2.2.2.2.1) (i64 x.1.2.2.2.2.2.1); simp
    | 8, _ => show Is (bl x.1.2.2.2.2.2.2) (bl x.1.2.2.2.2.2.2); simp
    | 9, _ => show Is (bl x.2) (bl x.2); simp
def cL (l : List Ltr) : Nat → Nat → AV := fun i j => eL (l.getD i dL) j
def litrs (l : List Ltr) : AV := .sl l.length 10 fun i j => eL (l.getD i dL) j
def arL (l : List Ltr) : AObj := .arr l.length 10 fun i j => eL (l.getD i dL) j
theorem Enc.litrs : Enc litrs := Enc.sln (by decide) EncN.eL dL
@[simp] theorem Is_litrs {x y : List Ltr} : Is (litrs x) (litrs y) ↔ x = y := Enc.litrs x y
@[simp] theorem IsO_litrs {x y : List Ltr} : IsO (arL x) (arL y) ↔ y = [] ∨ x = y := IsO_arn EncN.eL
@[simp] theorem IsO_litrs0 {n : Nat} {c : Nat → Nat → AV} : IsO (.arr n 10 c) (arL []) := IsO_nil
@[simp] theorem litrs_nil {q : Nat} {c : Nat → Nat → AV} {m : List Ltr} : Is (.lit 0 q c) (litrs m) ↔ m = [] := nil_sln
@[simp] theorem litrs_nilA {m : List Ltr} : Is nilA (litrs m) ↔ m = [] := nil_sln
@[simp] theorem litrs_join {l m : List Ltr} : IsO (.arr (l.length + m.length) 10 (joinC l.length (cL l) (cL m))) (arL (l ++ m)) := IsO_join EncN.eL (IsR_cel EncN.eL)
@[simp] theorem litrs_join0 {m : List Ltr} {c : Nat → Nat → AV} : IsO (.arr (0 + m.length) 10 (joinC 0 c (cL m))) (arL m) := IsO_join0 EncN.eL (IsR_cel EncN.eL)
@[simp] theorem litrs_join0' {m : List Ltr} {c : Nat → Nat → AV} : IsO (.arr m.length 10 (joinC 0 c (cL m))) (arL m) := IsO_join0 EncN.eL (IsR_cel EncN.eL)
theorem Is_rowL {k : Int} {a : ByteArray} {b : List Tm} {c : ByteArray} {d nums : List Tm} {times : List Int} {bound : Int} {strict no : Bool} {b' d' n' t' : AV} (hb : Is b' (terms b)) (hd : Is d' (terms d)) (hn : Is n' (terms nums)) (ht : Is t' (ints times)) : ∀ j, j < 10 → Is ([i64 k, st a, b', st c, d', n', t', i64 bound, bl strict, bl no].getD j .any) (eL ((k, (a, b), (c, d), nums, times, bound, strict), no) j) := fun j hj => by
  match j, hj with
  | 0, _ => exact (Enc.i64 k k).2 rfl
  | 1, _ => exact (Enc.st a a).2 rfl
  | 2, _ => exact hb
  | 3, _ => exact (Enc.st c c).2 rfl
  | 4, _ => exact hd
  | 5, _ => exact hn
  | 6, _ => exact ht
  | 7, _ => exact (Enc.i64 bound bound).2 rfl
  | 8, _ => exact (Enc.bl strict strict).2 rfl
  | 9, _ => exact (Enc.bl no no).2 rfl
@[simp] theorem litrs_set {l : List Ltr} {i : Nat} {k : Int} {a : ByteArray} {b : List Tm} {c : ByteArray} {d nums : List Tm} {times : List Int} {bound : Int} {strict no : Bool} : IsO (.arr l.length 10 (storeC (cL l) i 0 [i64 k, st a, terms b, st c, terms d, terms nums, ints times, i64 bound, bl strict, bl no])) (arL (l.set i ((k, (a, b), (c, d), nums, times, bound, strict), no))) := IsO_set EncN.eL rfl (Is_rowL ((Enc.terms b b).2 rfl) ((Enc.terms d d).2 rfl) ((Enc.terms nums nums).2 rfl) ((Enc.ints times times).2 rfl))
@[simp] theorem litrs_make {n : Nat} : IsO (.arr n 10 (fun _ j => [i64 0, st ByteArray.empty, nilA, st ByteArray.empty, nilA, nilA, nilA, i64 0, bl false, bl false].getD j .any)) (arL (List.replicate n dL)) := IsO_make EncN.eL (Is_rowL (terms_nilA.2 rfl) (terms_nilA.2 rfl) (terms_nilA.2 rfl) (ints_nilA.2 rfl))
abbrev MlLs (l : List Ltr) : Prop := l.length ≤ 9223372036854775807 ∧ ∀ x ∈ l, MlA x.1
abbrev SmLs (l : List Ltr) : Prop := costLs l ≤ 1048576
def A_szLitS (l : List Ltr) (k : Int) : List Ann :=
  [.mk Nat (fun x => x ≤ l.length ∧ 0 ≤ k - l.length - sumN costL (l.take x)) (fun x => { fr := pad [litrs l, i64 (k - l.length - sumN costL (l.take x)), .any, .any, .any, i64 x] 27, H := [] }) (fun x => l.length - x) (fun _ => [])]
def A_toLitS (l : List Ltr) : List Ann :=
  [.mk (Nat × List Ltr) (fun x => x.1 ≤ l.length ∧ x.2.length = l.length ∧ x.2.take x.1 = l.take x.1) (fun x => { fr := pad [litrs l, .any, .any, .osl 0 0 x.2.length, i64 x.1] 23, H := [arL x.2] }) (fun x => l.length - x.1) (fun _ => [])]
def A_eqLitS (l m : List Ltr) : List Ann :=
  [.mk Nat (fun x => x ≤ l.length ∧ l.length = m.length ∧ (l = m ↔ l.drop x = m.drop x)) (fun x => { fr := pad [litrs l, litrs m, .any, .any, .any, i64 x] 27, H := [] }) (fun x => l.length - x) (fun _ => [])]
end Cg

/-
  Plain functions, and what is known of the codes' callees and loops: the values of terms. No condition.
-/
namespace Pl
open Go
def look (m : Mdl) (nm : ByteArray) (args : List Rt) : Rt := match m.find? fun r => decide (r.1 = nm) && decide (r.2.1 = args) with
  | some r => r.2.2
  | none => (0, 1)
mutual
def valT (m : Mdl) : Tm → Rt
  | .mk v ks => look m v (valL m ks)
def valL (m : Mdl) : List Tm → List Rt
  | [] => []
  | t :: ts => valT m t :: valL m ts
end
def bsF (c : Nat → Bool) (i j : Nat) : Nat := if i < j then (if c ((i + j) / 2) = true then bsF c ((i + j) / 2 + 1) j else bsF c i ((i + j) / 2)) else i
termination_by j - i
decreasing_by
  · omega
  · omega
def rowBelow (m : Mdl) (r : Rw) (i : Nat) : Bool := decide (cmpRows (m.getD i dR) r < 0)
def bsR (m : Mdl) (r : Rw) : Nat := bsF (rowBelow m r) 0 m.length
def bsHit (m : Mdl) (r : Rw) : Bool := decide (bsR m r < m.length) && decide (cmpRows (m.getD (bsR m r) dR) r = 0)
def modelTerm (s : Sig) (m : Mdl) (t : Tm) : Rt × Bool := if (!(termSort s t).2 || !modelOk s m) = true then ((0, 0), false) else (valT m t, true)
end Pl
namespace Cg
open Go Pl
def K_whole : Nat × Contract := (Nm.impl_whole, .sc Int (fun x => [i64 x]) (fun _ => True) fun x => ratA (x, 1))
def K_l7Look : Nat × Contract := (Nm.spec_l7Look, .sc (Mdl × ByteArray × List Rt) (fun x => [modelA x.1, st x.2.1, rats x.2.2]) (fun x => SmM x.1) fun x => ratA (look x.1 x.2.1 x.2.2))
def K_l7Term (n : Nat) : Nat × Contract := (Nm.spec_l7Term, .sc (Mdl × TP) (fun x => [modelA x.1, termA x.2]) (fun x => (SmM x.1 ∧ SmT (.mk x.2.1 x.2.2)) ∧ manyL x.2.2 < n) fun x => ratA (valT x.1 (.mk x.2.1 x.2.2)))
def K_lTm : Nat × Contract := (Nm.spec_l7Term, .sc (Mdl × TP) (fun x => [modelA x.1, termA x.2]) (fun x => SmM x.1 ∧ SmT (.mk x.2.1 x.2.2)) fun x => ratA (valT x.1 (.mk x.2.1 x.2.2)))
def K_BinRow : Nat × Contract := (Nm.slices_BinarySearchFunc_Simpl_Row_impl_Row_impl_Row, .sc (Mdl × Rw) (fun x => [mrows x.1, rowA x.2, .fn (.func Nm.impl_compareRows) []]) (fun x => SmM x.1 ∧ Sz x.2.2.1) fun x => .tup [i64 (bsR x.1 x.2), bl (bsHit x.1 x.2)])
def K_value (n : Nat) : Nat × Contract := (Nm.impl_Model_value, .sc (Mdl × TP) (fun x => [modelA x.1, termA x.2]) (fun x => (mL none x.1 = true ∧ SmM x.1 ∧ SmT (.mk x.2.1 x.2.2)) ∧ manyL x.2.2 < n) fun x => ratA (valT x.1 (.mk x.2.1 x.2.2)))
def K_val : Nat × Contract := (Nm.impl_Model_value, .sc (Mdl × TP) (fun x => [modelA x.1, termA x.2]) (fun x => mL none x.1 = true ∧ SmM x.1 ∧ SmT (.mk x.2.1 x.2.2)) fun x => ratA (valT x.1 (.mk x.2.1 x.2.2)))
def K_sModelTerm : Nat × Contract := (Nm.spec_ModelTerm, .sc (Sig × Mdl × TP) (fun x => [sigA x.1, modelA x.2.1, termA x.2.2]) (fun x => SmG x.1 ∧ SmM x.2.1 ∧ SmT (.mk x.2.2.1 x.2.2.2)) fun x => .tup [ratA (modelTerm x.1 x.2.1 (.mk x.2.2.1 x.2.2.2)).1, bl (modelTerm x.1 x.2.1 (.mk x.2.2.1 x.2.2.2)).2])
def K_iModelTerm : Nat × Contract := (Nm.impl_ModelTerm, .sc (Sig × Mdl × TP) (fun x => [sigA x.1, modelA x.2.1, termA x.2.2]) (fun x => SmG x.1 ∧ SmM x.2.1 ∧ SmT (.mk x.2.2.1 x.2.2.2)) fun x => .tup [ratA (modelTerm x.1 x.2.1 (.mk x.2.2.1 x.2.2.2)).1, bl (modelTerm x.1 x.2.1 (.mk x.2.2.1 x.2.2.2)).2])
def A_l7Look (m : Mdl) (nm : ByteArray) (args : List Rt) : List Ann :=
  [.mk Nat (fun x => x ≤ m.length ∧ look m nm args = look (m.drop x) nm args) (fun x => { fr := pad [.any, st nm, rats args, .ptr 0 0, .any, .any, .ptr 1 0, i64 x] 40, H := [.var [mrows m], .var [i64 0, i64 0]] }) (fun x => m.length - x) (fun _ => [])]
def A_l7Term (m : Mdl) (a : ByteArray) (b : List Tm) : List Ann :=
  [.mk Nat (fun x => x ≤ b.length) (fun x => { fr := pad [.any, .any, .ptr 0 0, .ptr 1 0, .ptr 2 0, .osl 3 0 (valL m (b.take x)).length, i64 x] 30, H := [.var [mrows m], .var [st a, terms b], .var [i64 0, i64 0], arQ (valL m (b.take x))] }) (fun x => b.length - x) (fun _ => [])]
def A_BinRow (m : Mdl) (r : Rw) : List Ann :=
  [.mk (Nat × Nat) (fun x => x.1 ≤ x.2 ∧ x.2 ≤ m.length ∧ bsR m r = bsF (rowBelow m r) x.1 x.2) (fun x => { fr := pad [mrows m, .any, .fn (.func Nm.impl_compareRows) [], .any, .ptr 0 0, .any, .any, .any, i64 m.length, i64 x.1, i64 x.2] 49, H := [.var [st r.1, rats r.2.1, i64 r.2.2.1, i64 r.2.2.2]] }) (fun x => x.2 - x.1) (fun _ => [])]
def A_value (m : Mdl) (a : ByteArray) (b : List Tm) : List Ann :=
  [.mk Nat (fun x => x ≤ b.length) (fun x => { fr := pad [.any, .any, .ptr 0 0, .ptr 1 0, .ptr 2 0, .ptr 3 0, .any, .any, .any, .any, .any, .any, .any, .any, terms b, i64 b.length, i64 x] 45, H := [.var [mrows m], .var [st a, terms b], .var [i64 0, i64 0], .var [st a, .osl 4 0 (valL m (b.take x)).length, i64 0, i64 0], arQ (valL m (b.take x))] }) (fun x => b.length - x) (fun _ => [])]
end Cg

/-
  What is known of the library's callees: joined texts. No condition.
-/
namespace Pl
open Go
def bl' (s : ByteArray) : List UInt8 := s.data.toList
def interL (sep : List UInt8) : List (List UInt8) → List UInt8
  | [] => []
  | [x] => x
  | x :: y :: r => x ++ sep ++ interL sep (y :: r)
def joinS (xs : List ByteArray) (sep : ByteArray) : ByteArray := ⟨(interL (bl' sep) (xs.map bl')).toArray⟩
end Pl
namespace Cg
open Go Pl
def K_Join : Nat × Contract := (Nm.strings_Join, .sc (List ByteArray × ByteArray) (fun x => [strs x.1, st x.2]) (fun x => x.1.length ≤ 140737488355328 ∧ (joinS x.1 x.2).size ≤ 140737488355328) fun x => st (joinS x.1 x.2))
end Cg

/-
  Plain functions, and what is known of the codes' callees and loops: valid atoms. No condition.
-/
namespace Pl
open Go
def mkB (l : List UInt8) : ByteArray := ⟨⟨l⟩⟩
mutual
def textB : Tm → List UInt8
  | .mk v ks => if ks.isEmpty then bl' v else bl' v ++ [40] ++ interL [44] (textBs ks) ++ [41]
def textBs : List Tm → List (List UInt8)
  | [] => []
  | t :: ts => textB t :: textBs ts
end
def textT (t : Tm) : ByteArray := mkB (textB t)
def textL (l : List Tm) : List ByteArray := l.map textT
def spellB (v : List UInt8) (ts : List (List UInt8)) : List UInt8 := if ts.isEmpty then v else v ++ [40] ++ interL [44] ts
def spell (v : ByteArray) (ts : List Tm) : ByteArray := mkB (spellB (bl' v) (textBs ts))
def noneT (x : TP) : Bool := decide (x.1 = ByteArray.empty) && decide (x.2 = [])
def above (p : Option Tm) (t : Tm) : Bool := match p with
  | none => true
  | some q => sLess (textT q) (textT t)
def timeOk (n : Int) : Bool := decide (n ≠ 0) && decide (-50 ≤ n) && decide (n ≤ 50)
def numOk : Option Tm → List Tm → List Int → Bool
  | p, t :: ts, n :: ns => (right t && timeOk n && above p t) && numOk (some t) ts ns
  | _, _, _ => true
def prevN (l : List Tm) (k : Nat) : Option Tm := if k = 0 then none else some (l.getD (k - 1) dT)
def sumHead (x : Atm) : Bool := noneT x.2.1 && noneT x.2.2.1 && decide (x.2.2.2.1.length = x.2.2.2.2.1.length) && decide (1 ≤ x.2.2.2.1.length) && decide (x.2.2.2.1.length ≤ 4) && decide (-1000 ≤ x.2.2.2.2.2.1) && decide (x.2.2.2.2.2.1 ≤ 1000)
def sumRight (x : Atm) : Bool := sumHead x && numOk none x.2.2.2.1 x.2.2.2.2.1
def eqRight (x : Atm) : Bool := right (.mk x.2.1.1 x.2.1.2) && right (.mk x.2.2.1.1 x.2.2.1.2) && decide (x.2.2.2.1 = []) && decide (x.2.2.2.2.1 = []) && decide (x.2.2.2.2.2.1 = 0) && !x.2.2.2.2.2.2
def atomRight (x : Atm) : Bool := if x.1 = 2 then sumRight x else decide (x.1 = 1) && eqRight x
def isNum (s : Sig) (t : Tm) : Bool := (termSort s t).2 && decide ((termSort s t).1 = 1)
def eqSorted (s : Sig) (a b : Tm) : Bool := (termSort s a).2 && (termSort s b).2 && decide ((termSort s a).1 = (termSort s b).1)
def atomOk (s : Sig) (x : Atm) : Bool := sigOk s && atomRight x && if x.1 = 1 then eqSorted s (.mk x.2.1.1 x.2.1.2) (.mk x.2.2.1.1 x.2.2.1.2) else x.2.2.2.1.all (isNum s)
end Pl
namespace Cg
open Go Pl
def K_l4Text (n : Nat) : Nat × Contract := (Nm.spec_l4Text, .sc TP (fun x => [termA x]) (fun x => SmT (.mk x.1 x.2) ∧ manyL x.2 < n) fun x => st (textT (.mk x.1 x.2)))
def K_lText : Nat × Contract := (Nm.spec_l4Text, .sc TP (fun x => [termA x]) (fun x => SmT (.mk x.1 x.2)) fun x => st (textT (.mk x.1 x.2)))
def K_termText (n : Nat) : Nat × Contract := (Nm.impl_termText, .sc TP (fun x => [termA x]) (fun x => SmT (.mk x.1 x.2) ∧ manyL x.2 < n) fun x => st (textT (.mk x.1 x.2)))
def K_tText : Nat × Contract := (Nm.impl_termText, .sc TP (fun x => [termA x]) (fun x => SmT (.mk x.1 x.2)) fun x => st (textT (.mk x.1 x.2)))
def K_l6None : Nat × Contract := (Nm.spec_l6None, .sc TP (fun x => [termA x]) (fun _ => True) fun x => bl (noneT x))
def K_isNone : Nat × Contract := (Nm.impl_isNone, .sc TP (fun x => [termA x]) (fun _ => True) fun x => bl (noneT x))
def K_l6Sum : Nat × Contract := (Nm.spec_l6Sum, .sc Atm (fun x => [atomA x]) SmA fun x => bl (sumRight x))
def K_l6Right : Nat × Contract := (Nm.spec_l6Right, .sc Atm (fun x => [atomA x]) SmA fun x => bl (atomRight x))
def K_Atomok : Nat × Contract := (Nm.impl_Atom_ok, .sc Atm (fun x => [atomA x]) SmA fun x => bl (atomRight x))
def K_sAtomOk : Nat × Contract := (Nm.spec_AtomOk, .sc (Sig × Atm) (fun x => [sigA x.1, atomA x.2]) (fun x => SmG x.1 ∧ SmA x.2) fun x => bl (atomOk x.1 x.2))
def K_isNumber : Nat × Contract := (Nm.impl_isNumber, .sc (Sig × TP) (fun x => [sigA x.1, termA x.2]) (fun x => SmG x.1 ∧ SmT (.mk x.2.1 x.2.2)) fun x => bl (isNum x.1 (.mk x.2.1 x.2.2)))
def K_AtomOk1 : Nat × Contract := (Nm.impl_AtomOk_1, .sc (TP × Sig) (fun x => [termA x.1, refs [syms x.2]]) (fun x => SmG x.2 ∧ SmT (.mk x.1.1 x.1.2)) fun x => bl (!isNum x.2 (.mk x.1.1 x.1.2)))
def K_IndexTerm : Nat × Contract := (Nm.slices_IndexFunc_Simpl_Term_impl_Term, .sc (List Tm × Sig) (fun x => [terms x.1, .fn (.func Nm.impl_AtomOk_1) [refs [syms x.2]]]) (fun x => SmTs x.1 ∧ SmG x.2) fun x => i64 (idx (fun y => !isNum x.2 y) x.1))
def K_ContainsTerm : Nat × Contract := (Nm.slices_ContainsFunc_Simpl_Term_impl_Term, .sc (List Tm × Sig) (fun x => [terms x.1, .fn (.func Nm.impl_AtomOk_1) [refs [syms x.2]]]) (fun x => SmTs x.1 ∧ SmG x.2) fun x => bl (x.1.any fun y => !isNum x.2 y))
def K_Eqsorted : Nat × Contract := (Nm.impl_Eq_sorted, .sc (TP × TP × Sig) (fun x => [.agg [st x.1.1, terms x.1.2, st x.2.1.1, terms x.2.1.2], sigA x.2.2]) (fun x => SmT (.mk x.1.1 x.1.2) ∧ SmT (.mk x.2.1.1 x.2.1.2) ∧ SmG x.2.2) fun x => bl (eqSorted x.2.2 (.mk x.1.1 x.1.2) (.mk x.2.1.1 x.2.1.2)))
def K_iAtomOk : Nat × Contract := (Nm.impl_AtomOk, .sc (Sig × Atm) (fun x => [sigA x.1, atomA x.2]) (fun x => SmG x.1 ∧ SmA x.2) fun x => bl (atomOk x.1 x.2))
def atomC (x : Atm) : List AV := [i64 x.1, st x.2.1.1, terms x.2.1.2, st x.2.2.1.1, terms x.2.2.1.2, terms x.2.2.2.1, ints x.2.2.2.2.1, i64 x.2.2.2.2.2.1, bl x.2.2.2.2.2.2]
def A_l4Text (a : ByteArray) (b : List Tm) : List Ann :=
  [.mk Nat (fun x => x ≤ b.length) (fun x => { fr := pad [.any, .ptr 0 0, .any, st (spell a (b.take x)), i64 x] 34, H := [.var [st a, terms b]] }) (fun x => b.length - x) (fun _ => [])]
def A_termText (a : ByteArray) (b : List Tm) : List Ann :=
  [.mk Nat (fun x => x ≤ b.length ∧ b ≠ []) (fun x => { fr := pad [.any, .ptr 0 0, .any, .osl 1 0 (textL (b.take x)).length, .any, .any, .any, .any, .any, .any, .any, .any, .any, terms b, i64 b.length, i64 x] 32, H := [.var [st a, terms b], arS (textL (b.take x))] }) (fun x => b.length - x) (fun _ => [])]
def A_l6Sum (a : Atm) : List Ann :=
  [.mk Nat (fun x => sumHead a = true ∧ x ≤ a.2.2.2.1.length ∧ numOk none a.2.2.2.1 a.2.2.2.2.1 = numOk (prevN a.2.2.2.1 x) (a.2.2.2.1.drop x) (a.2.2.2.2.1.drop x)) (fun x => { fr := pad [.any, .ptr 0 0, .any, i64 x] 97, H := [.var (atomC a)] }) (fun x => a.2.2.2.1.length - x) (fun _ => [])]
def A_Atomok (a : Atm) : List Ann :=
  [.mk Nat (fun x => a.1 = 2 ∧ sumHead a = true ∧ x ≤ a.2.2.2.1.length ∧ numOk none a.2.2.2.1 a.2.2.2.2.1 = numOk (prevN a.2.2.2.1 x) (a.2.2.2.1.drop x) (a.2.2.2.2.1.drop x)) (fun x => { fr := pad ([.any, .ptr 0 0] ++ List.replicate 72 .any ++ [terms a.2.2.2.1, i64 a.2.2.2.1.length, i64 x]) 118, H := [.var (atomC a)] }) (fun x => a.2.2.2.1.length - x) (fun _ => [])]
def A_sAtomOk (s : Sig) (a : Atm) : List Ann :=
  [.mk Nat (fun x => sigOk s = true ∧ atomRight a = true ∧ a.1 ≠ 1 ∧ x ≤ a.2.2.2.1.length ∧ a.2.2.2.1.all (isNum s) = (a.2.2.2.1.drop x).all (isNum s)) (fun x => { fr := pad [.any, .any, .ptr 0 0, .ptr 1 0, .any, .any, i64 x] 47, H := [.var [syms s], .var (atomC a)] }) (fun x => a.2.2.2.1.length - x) (fun _ => [])]
def A_IndexTerm (l : List Tm) (s : Sig) : List Ann :=
  [.mk Nat (fun x => x ≤ l.length ∧ idx (fun y => !isNum s y) l = if idx (fun y => !isNum s y) (l.drop x) < 0 then -1 else idx (fun y => !isNum s y) (l.drop x) + x)
    (fun x => { fr := pad [terms l, .fn (.func Nm.impl_AtomOk_1) [refs [syms s]], .any, .any, .any, .any, .any, i64 l.length, i64 x] 19, H := [] }) (fun x => l.length - x) (fun _ => [])]
end Cg

/-
  Plain functions, and what is known of the codes' callees and loops: the truth of literals in models. No condition.
-/
namespace Pl
open Go
def least (n d : Int) : Option Rt := if ratOk (n.tdiv (Nat.gcd n.natAbs d.natAbs), d.tdiv (Nat.gcd n.natAbs d.natAbs)) = true then some (n.tdiv (Nat.gcd n.natAbs d.natAbs), d.tdiv (Nat.gcd n.natAbs d.natAbs)) else none
def ratAdd (a b : Rt) : Option Rt := if (ratOk a && ratOk b) = true then least (a.1 * b.2 + b.1 * a.2) (a.2 * b.2) else none
def ratMul (a b : Rt) : Option Rt := if (ratOk a && ratOk b) = true then least (a.1 * b.1) (a.2 * b.2) else none
def ratV (x : Option Rt) : Rt := x.getD (0, 0)
def plusV (s : Rt) (c : Int) (v : Rt) : Option Rt := (ratMul (c, 1) v).bind fun x => ratAdd s x
def under (s : Rt) (b : Int) (strict : Bool) : Bool := if strict = true then ratLess s (b, 1) else !ratLess (b, 1) s
def sumS (m : Mdl) : Rt → List Tm → List Int → Rt × Bool
  | s, t :: ts, n :: ns => match ratMul (n, 1) (valT m t) with
    | none => (s, false)
    | some x => match ratAdd s x with
      | none => ((0, 0), false)
      | some y => sumS m y ts ns
  | s, _, _ => (s, true)
def atomV (m : Mdl) (x : Atm) : Bool × Bool := if x.1 = 1 then (decide (valT m (.mk x.2.1.1 x.2.1.2) = valT m (.mk x.2.2.1.1 x.2.2.1.2)), true) else
  if (sumS m (0, 1) x.2.2.2.1 x.2.2.2.2.1).2 = true then (under (sumS m (0, 1) x.2.2.2.1 x.2.2.2.2.1).1 x.2.2.2.2.2.1 x.2.2.2.2.2.2, true) else (false, false)
def modelLit (s : Sig) (m : Mdl) (l : Ltr) : Bool × Bool := if (!modelOk s m || !atomOk s l.1) = true then (false, false) else if (atomV m l.1).2 = true then ((atomV m l.1).1 != l.2, true) else (false, false)
def litIs (s : Sig) (m : Mdl) (l : Ltr) : Bool := (modelLit s m l).1 && (modelLit s m l).2
def modelAll (s : Sig) (m : Mdl) (l : List Ltr) : Bool := modelOk s m && l.all (litIs s m)
end Pl
namespace Cg
open Go Pl
def K_l1Least : Nat × Contract := (Nm.spec_l1Least, .sc (Int × Int) (fun x => [i64 x.1, i64 x.2]) (fun x => x.1.natAbs ≤ 2000000000000000000 ∧ 1 ≤ x.2 ∧ x.2 ≤ 1000000000000000000) fun x => .tup [ratA (ratV (least x.1 x.2)), bl (least x.1 x.2).isSome])
def K_ratOf : Nat × Contract := (Nm.impl_ratOf, .sc (Int × Int) (fun x => [i64 x.1, i64 x.2]) (fun x => x.1.natAbs ≤ 2000000000000000000 ∧ 1 ≤ x.2 ∧ x.2 ≤ 1000000000000000000) fun x => .tup [ratA (ratV (least x.1 x.2)), bl (least x.1 x.2).isSome])
def K_sRatAdd : Nat × Contract := (Nm.spec_RatAdd, .sc (Rt × Rt) (fun x => [ratA x.1, ratA x.2]) (fun _ => True) fun x => .tup [ratA (ratV (ratAdd x.1 x.2)), bl (ratAdd x.1 x.2).isSome])
def K_iRatAdd : Nat × Contract := (Nm.impl_RatAdd, .sc (Rt × Rt) (fun x => [ratA x.1, ratA x.2]) (fun _ => True) fun x => .tup [ratA (ratV (ratAdd x.1 x.2)), bl (ratAdd x.1 x.2).isSome])
def K_sRatMul : Nat × Contract := (Nm.spec_RatMul, .sc (Rt × Rt) (fun x => [ratA x.1, ratA x.2]) (fun _ => True) fun x => .tup [ratA (ratV (ratMul x.1 x.2)), bl (ratMul x.1 x.2).isSome])
def K_iRatMul : Nat × Contract := (Nm.impl_RatMul, .sc (Rt × Rt) (fun x => [ratA x.1, ratA x.2]) (fun _ => True) fun x => .tup [ratA (ratV (ratMul x.1 x.2)), bl (ratMul x.1 x.2).isSome])
def K_plus : Nat × Contract := (Nm.impl_plus, .sc (Rt × Int × Rt) (fun x => [ratA x.1, i64 x.2.1, ratA x.2.2]) (fun _ => True) fun x => .tup [ratA (ratV (plusV x.1 x.2.1 x.2.2)), bl (plusV x.1 x.2.1 x.2.2).isSome])
def K_below : Nat × Contract := (Nm.impl_below, .sc (Rt × Int × Bool) (fun x => [ratA x.1, i64 x.2.1, bl x.2.2]) (fun _ => True) fun x => bl (under x.1 x.2.1 x.2.2))
def K_l7Sum : Nat × Contract := (Nm.spec_l7Sum, .sc (Mdl × Atm) (fun x => [modelA x.1, atomA x.2]) (fun x => SmM x.1 ∧ SmA x.2 ∧ x.2.2.2.2.1.length = x.2.2.2.2.2.1.length) fun x => .tup [ratA (sumS x.1 (0, 1) x.2.2.2.2.1 x.2.2.2.2.2.1).1, bl (sumS x.1 (0, 1) x.2.2.2.2.1 x.2.2.2.2.2.1).2])
def K_atomV : Nat × Contract := (Nm.impl_Model_atom, .sc (Mdl × Atm) (fun x => [modelA x.1, atomA x.2]) (fun x => mL none x.1 = true ∧ SmM x.1 ∧ SmA x.2 ∧ (¬ x.2.1 = 1 → x.2.2.2.2.1.length = x.2.2.2.2.2.1.length)) fun x => .tup [bl (atomV x.1 x.2).1, bl (atomV x.1 x.2).2])
def K_sModelLit : Nat × Contract := (Nm.spec_ModelLit, .sc (Sig × Mdl × Ltr) (fun x => [sigA x.1, modelA x.2.1, litA x.2.2]) (fun x => SmG x.1 ∧ SmM x.2.1 ∧ SmA x.2.2.1) fun x => .tup [bl (modelLit x.1 x.2.1 x.2.2).1, bl (modelLit x.1 x.2.1 x.2.2).2])
def K_iModelLit : Nat × Contract := (Nm.impl_ModelLit, .sc (Sig × Mdl × Ltr) (fun x => [sigA x.1, modelA x.2.1, litA x.2.2]) (fun x => SmG x.1 ∧ SmM x.2.1 ∧ SmA x.2.2.1) fun x => .tup [bl (modelLit x.1 x.2.1 x.2.2).1, bl (modelLit x.1 x.2.1 x.2.2).2])
def K_sModelAll : Nat × Contract := (Nm.spec_ModelAll, .sc (Sig × Mdl × List Ltr) (fun x => [sigA x.1, modelA x.2.1, litrs x.2.2]) (fun x => SmG x.1 ∧ SmM x.2.1 ∧ SmLs x.2.2) fun x => bl (modelAll x.1 x.2.1 x.2.2))
def K_iModelAll : Nat × Contract := (Nm.impl_ModelAll, .sc (Sig × Mdl × List Ltr) (fun x => [sigA x.1, modelA x.2.1, litrs x.2.2]) (fun x => SmG x.1 ∧ SmM x.2.1 ∧ SmLs x.2.2) fun x => bl (modelAll x.1 x.2.1 x.2.2))
def A_l7Sum (m : Mdl) (a : Atm) : List Ann :=
  [.mk (Nat × Rt) (fun x => x.1 ≤ a.2.2.2.1.length ∧ ratOk x.2 = true ∧ sumS m (0, 1) a.2.2.2.1 a.2.2.2.2.1 = sumS m x.2 (a.2.2.2.1.drop x.1) (a.2.2.2.2.1.drop x.1)) (fun x => { fr := pad [.any, .any, .ptr 0 0, .ptr 1 0, .ptr 2 0, .any, .ptr 3 0, i64 x.1] 48, H := [.var [mrows m], .var (atomC a), .var [i64 0, i64 0], .var [i64 x.2.1, i64 x.2.2]] }) (fun x => a.2.2.2.1.length - x.1) (fun _ => [])]
def A_atomV (m : Mdl) (a : Atm) : List Ann :=
  [.mk (Nat × Rt) (fun x => ¬ a.1 = 1 ∧ x.1 ≤ a.2.2.2.1.length ∧ ratOk x.2 = true ∧ sumS m (0, 1) a.2.2.2.1 a.2.2.2.2.1 = sumS m x.2 (a.2.2.2.1.drop x.1) (a.2.2.2.2.1.drop x.1)) (fun x => { fr := pad ([.any, .any, .ptr 0 0, .ptr 1 0, .any, .any, .ptr 2 0] ++ List.replicate 18 .any ++ [terms a.2.2.2.1, i64 a.2.2.2.1.length, i64 x.1]) 55, H := [.var [mrows m], .var (atomC a), .var [i64 x.2.1, i64 x.2.2]] }) (fun x => a.2.2.2.1.length - x.1) (fun _ => [])]
def A_sModelAll (s : Sig) (m : Mdl) (l : List Ltr) : List Ann :=
  [.mk Nat (fun x => x ≤ l.length ∧ l.all (litIs s m) = (l.drop x).all (litIs s m)) (fun x => { fr := pad [.any, .any, litrs l, .ptr 0 0, .ptr 1 0, .any, .any, i64 x] 35, H := [.var [syms s], .var [mrows m]] }) (fun x => l.length - x) (fun _ => [])]
def A_iModelAll (s : Sig) (m : Mdl) (l : List Ltr) : List Ann :=
  [.mk Nat (fun x => modelOk s m = true ∧ x ≤ l.length ∧ l.all (litIs s m) = (l.drop x).all (litIs s m)) (fun x => { fr := pad ([.any, .any, .any, .ptr 0 0, .ptr 1 0] ++ List.replicate 10 .any ++ [litrs l, i64 l.length, i64 x]) 35, H := [.var [syms s], .var [mrows m]] }) (fun x => l.length - x) (fun _ => [])]
end Cg

/-
  Plain functions, and what is known of the codes' callees and loops: drawn words and models. No condition.
-/
set_option linter.unusedVariables false
set_option linter.unusedSimpArgs false
namespace Pl
def base (k : Int) : Sig :=
  if k = 0 then [(⟨#[97]⟩, [], 0), (⟨#[98]⟩, [], 0), (⟨#[99]⟩, [], 0), (⟨#[102]⟩, [0], 0), (⟨#[103]⟩, [0, 0], 0)] else
  if k = 1 then [(⟨#[97]⟩, [], 0), (⟨#[98]⟩, [], 0), (⟨#[104]⟩, [0], 1), (⟨#[120]⟩, [], 1), (⟨#[121]⟩, [], 1)] else
  if k = 2 then [(⟨#[107]⟩, [1], 1), (⟨#[120]⟩, [], 1), (⟨#[121]⟩, [], 1), (⟨#[122]⟩, [], 1)] else
  if k = 3 then [(⟨#[97]⟩, [], 0), (⟨#[117]⟩, [1], 0), (⟨#[118]⟩, [1, 0], 1), (⟨#[120]⟩, [], 1), (⟨#[121]⟩, [], 1)] else []
/-- Few words. -/
def SgB (n k : Nat) (s : Sig) : Prop := s.length ≤ n ∧ ∀ x ∈ s, x.1.size ≤ 10 ∧ x.2.1.length ≤ k
/-- A small model. -/
def MdB (n k : Nat) (m : Mdl) : Prop := m.length ≤ n ∧ ∀ x ∈ m, x.1.size ≤ 10 ∧ x.2.1.length ≤ k
end Pl
namespace Cg
open Go Pl
/-- Words whose parts' sorts are owned too. -/
def xrY (l : List Sym) : AObj := .xarr l.length 3 fun i j => eY (l.getD i dY) j
abbrev RX := List Int × Int
def rdV (x : RX) : AObj := .var [byts x.1, i64 x.2]
def K_of : Nat × Contract := (Nm.spec_l16Rd_of, .eff (List Int × Int × List ByteArray) (fun x => ⟨[.ptr 0 0, strs x.2.2], [.var [byts x.1, i64 x.2.1]]⟩) (fun x => Rd 1099511627776 x.1 x.2.1 ∧ x.2.2 ≠ [] ∧ Sz x.2.2) ByteArray (fun x y => y ∈ x.2.2) fun x y => (st y, [.var [byts x.1, i64 (x.2.1 + 1)]]))
def K_rat : Nat × Contract := (Nm.spec_l16Rd_rat, .eff (List Int × Int) (fun x => ⟨[.ptr 0 0], [.var [byts x.1, i64 x.2]]⟩) (fun x => Rd 549755813888 x.1 x.2) Rt (fun _ _ => True) fun x y => (ratA y, [.var [byts x.1, i64 (x.2 + 2)]]))
def K_RatOfP : Nat × Contract := (Nm.spec_RatOf, .sc (Int × Int) (fun x => [i64 x.1, i64 x.2]) (fun x => x.1.natAbs ≤ 1000000000 ∧ 1 ≤ x.2 ∧ x.2 ≤ 1000000000) fun x => .tup [ratA (ratV (least x.1 x.2)), bl (least x.1 x.2).isSome])
def K_l7Value : Nat × Contract := (Nm.spec_l7Value, .eff (List Int × Int × Int) (fun x => ⟨[.ptr 0 0, i64 x.2.2], [.var [byts x.1, i64 x.2.1]]⟩) (fun x => Rd 549755813888 x.1 x.2.1) (Rt × Int) (fun x y => x.2.1 ≤ y.2 ∧ y.2 ≤ x.2.1 + 2) fun x y => (ratA y.1, [.var [byts x.1, i64 y.2]]))
def K_l4Base : Nat × Contract := (Nm.spec_l4Base, .im Int (fun k => [i64 k]) (fun _ => True) fun k => sigA (base k))
def K_l4Sig : Nat × Contract := (Nm.spec_l4Sig, .eff RX (fun x => ⟨[.ptr 0 0], [.var [byts x.1, i64 x.2]]⟩) (fun x => Rd 549755813888 x.1 x.2) Sig (fun _ y => SgB 5 2 y) fun x y => (sigA y, [.var [byts x.1, i64 (x.2 + 1)]]))
abbrev BX := List Int × Int × Sig
def K_l7Any : Nat × Contract := (Nm.spec_l7Any, .eff BX (fun x => ⟨[.ptr 0 0, sigA x.2.2], [.var [byts x.1, i64 x.2.1]]⟩) (fun x => Rd 137438953472 x.1 x.2.1 ∧ SgB 5 2 x.2.2) (Mdl × Int) (fun x y => MdB 15 2 y.1 ∧ x.2.1 ≤ y.2 ∧ y.2 ≤ x.2.1 + 1000) fun x y => (.agg [.osl 1 0 y.1.length], [.var [byts x.1, i64 y.2], xrR y.1]))
def K_l7AnyF : Nat × Contract := (Nm.spec_l7Any, .eff BX (fun x => ⟨[.ptr 0 0, sigA x.2.2], [.var [byts x.1, i64 x.2.1]]⟩) (fun x => Rd 137438953472 x.1 x.2.1 ∧ SgB 5 2 x.2.2) (Mdl × Int) (fun x y => MdB 15 2 y.1 ∧ x.2.1 ≤ y.2 ∧ y.2 ≤ x.2.1 + 1000) fun x y => (modelA y.1, [.var [byts x.1, i64 y.2]]))
def K_l7Some : Nat × Contract := (Nm.spec_l7Some, .eff BX (fun x => ⟨[.ptr 0 0, sigA x.2.2], [.var [byts x.1, i64 x.2.1]]⟩) (fun x => Rd 68719476736 x.1 x.2.1 ∧ SgB 5 2 x.2.2) (Mdl × Int) (fun x y => MdB 16 3 y.1 ∧ x.2.1 ≤ y.2 ∧ y.2 ≤ x.2.1 + 1100) fun x y => (modelA y.1, [.var [byts x.1, i64 y.2]]))
def A_l4Bent (b : List Int) (p : Int) (s : Sig) (n k : Nat) : List Ann :=
  [.mk Nat (fun x => x ≤ s.length) (fun x => { fr := pad [.ptr 0 0, .any, .any, .ptr 1 0, .ptr 2 0, .ptr 3 0, i64 x] 116, H := [.var [byts b, i64 p], .var [syms s], .var [nilA], .var [.osl 4 0 x], xrY (s.take x)] }) (fun x => s.length - x) (fun _ => []),
   .mk (Sig × Int) (fun x => SgB (n + 1) (k + 1) x.1 ∧ p ≤ x.2 ∧ x.2 ≤ p + 50 + x.1.length) (fun x => { fr := pad [.ptr 0 0, .any, .any, .any, .ptr 2 0, .ptr 3 0] 116, H := [.var [byts b, i64 x.2], .dead, .var [nilA], .var [.osl 4 0 x.1.length], arY x.1] }) (fun x => 15 - x.1.length) (fun _ => [])]
def A_l7Any (b : List Int) (p : Int) (s : Sig) : List Ann :=
  [.mk (Nat × Mdl × Int) (fun x => x.1 ≤ s.length ∧ MdB (3 * x.1) 2 x.2.1 ∧ p ≤ x.2.2 ∧ x.2.2 ≤ p + 100 * x.1)
    (fun x => { fr := pad [.ptr 0 0, .any, .any, .ptr 1 0, .ptr 2 0, .osl 3 0 x.2.1.length, i64 x.1] 72, H := [.var [byts b, i64 x.2.2], .var [syms s], .var [nilA], xrR x.2.1] }) (fun x => s.length - x.1)
    (fun x => [.mk (Int × Mdl × Int) (fun z => 0 ≤ z.1 ∧ z.1 ≤ 3 ∧ MdB (3 * x.1 + 3 - z.1.toNat) 2 z.2.1 ∧ p ≤ z.2.2 ∧ z.2.2 ≤ p + 100 * x.1 + 1 + 30 * (3 - z.1))
      (fun z => { fr := pad [.ptr 0 0, .any, .any, .ptr 1 0, .ptr 2 0, .osl 3 0 z.2.1.length, i64 x.1, i64 z.1] 72, H := [.var [byts b, i64 z.2.2], .var [syms s], .var [nilA], xrR z.2.1] }) (fun z => z.1.toNat)
      (fun z => [.mk (Nat × List Rt × Rt × Int) (fun u => u.1 ≤ (s.getD x.1 dY).2.1.length ∧ u.2.1.length = u.1 ∧ p ≤ u.2.2.2 ∧ u.2.2.2 ≤ p + 100 * x.1 + 3 + 30 * (3 - z.1) + 2 * u.1)
        (fun u => { fr := pad [.ptr 0 0, .any, .any, .ptr 1 0, .ptr 2 0, .osl 3 0 z.2.1.length, i64 x.1, i64 z.1, .ptr 4 0, i64 u.1] 72, H := [.var [byts b, i64 u.2.2.2], .var [syms s], .var [nilA], xrR z.2.1, .var [st (s.getD x.1 dY).1, .osl 5 0 u.2.1.length, i64 u.2.2.1.1, i64 u.2.2.1.2], arQ u.2.1] }) (fun u => (s.getD x.1 dY).2.1.length - u.1) (fun _ => [])])])]
def A_yModelEq : List Ann :=
  [.mk (Sig × Mdl × Nat) (fun x => SgB 15 9 x.1 ∧ MdB 16 3 x.2.1 ∧ x.2.2 ≤ x.2.1.length)
    (fun x => { fr := pad [.any, .any, .any, .any, .any, .ptr 0 0, .ptr 1 0, bl (modelOk x.1 x.2.1), i64 x.2.2] 87, H := [.var [syms x.1], .var [mrows x.2.1]] }) (fun x => x.2.1.length - x.2.2) (fun _ => [])]
end Cg

/-
  Plain functions, and what is known of the codes' callees and loops: drawn terms. No condition.
-/
set_option linter.unusedVariables false
set_option linter.unusedSimpArgs false
namespace Pl
/-- How much a drawn term so deep holds. -/
def CB : Nat → Nat
  | 0 => 12
  | d + 1 => 12 + 2 * CB d
def TmB (n : Nat) (t : TP) : Prop := costT (.mk t.1 t.2) ≤ n
/-- Words that are drawn for a term so deep. -/
def WdB (deep : Int) (s : Sig) : Prop := ∀ x ∈ s, x.1.size ≤ 10 ∧ x.2.1.length ≤ 2 ∧ (deep ≤ 1 → x.2.1 = [])
end Pl
namespace Cg
open Go Pl
def K_l4Copy (n : Nat) : Nat × Contract := (Nm.spec_l4Copy, .im TP (fun x => [termA x]) (fun x => SmT (.mk x.1 x.2) ∧ manyL x.2 < n) termA)
def K_lCopy : Nat × Contract := (Nm.spec_l4Copy, .im TP (fun x => [termA x]) (fun x => SmT (.mk x.1 x.2)) termA)
def K_l4CopyO : Nat × Contract := (Nm.spec_l4Copy, .eff TP (fun x => ⟨[.agg [st x.1, .osl 0 0 x.2.length]], [arT x.2]⟩) (fun x => SmT (.mk x.1 x.2)) Unit (fun _ _ => True) fun x _ => (termA x, [arT x.2]))
abbrev AX := List Int × Int × Sig × Int × Int
def K_l4Any (n : Nat) : Nat × Contract := (Nm.spec_l4Any, .eff AX (fun x => ⟨[.ptr 0 0, sigA x.2.2.1, i64 x.2.2.2.1, i64 x.2.2.2.2], [.var [byts x.1, i64 x.2.1]]⟩) (fun x => (Rd 137438953472 x.1 x.2.1 ∧ x.2.1 + CB x.2.2.2.2.toNat ≤ 137438953472 ∧ SgB 5 2 x.2.2.1 ∧ x.2.2.2.2 ≤ 4) ∧ x.2.2.2.2.toNat < n) (TP × Int) (fun x y => TmB (CB x.2.2.2.2.toNat) y.1 ∧ x.2.1 ≤ y.2 ∧ y.2 ≤ x.2.1 + CB x.2.2.2.2.toNat)
  fun x y => (.agg [st y.1.1, .osl 1 0 y.1.2.length], [.var [byts x.1, i64 y.2], arT y.1.2]))
def K_lAny : Nat × Contract := (Nm.spec_l4Any, .eff AX (fun x => ⟨[.ptr 0 0, sigA x.2.2.1, i64 x.2.2.2.1, i64 x.2.2.2.2], [.var [byts x.1, i64 x.2.1]]⟩) (fun x => Rd 137438953472 x.1 x.2.1 ∧ x.2.1 + CB x.2.2.2.2.toNat ≤ 137438953472 ∧ SgB 5 2 x.2.2.1 ∧ x.2.2.2.2 ≤ 4) (TP × Int) (fun x y => TmB (CB x.2.2.2.2.toNat) y.1 ∧ x.2.1 ≤ y.2 ∧ y.2 ≤ x.2.1 + CB x.2.2.2.2.toNat)
  fun x y => (.agg [st y.1.1, .osl 1 0 y.1.2.length], [.var [byts x.1, i64 y.2], arT y.1.2]))
def K_l4Some : Nat × Contract := (Nm.spec_l4Some, .eff BX (fun x => ⟨[.ptr 0 0, sigA x.2.2], [.var [byts x.1, i64 x.2.1]]⟩) (fun x => Rd 68719476736 x.1 x.2.1 ∧ SgB 5 2 x.2.2) (TP × Int) (fun x y => TmB 1500 y.1 ∧ x.2.1 ≤ y.2 ∧ y.2 ≤ x.2.1 + 500) fun x y => (termA y.1, [.var [byts x.1, i64 y.2]]))
def K_DrawModelTerm : Nat × Contract := (Nm.spec_DrawModelTerm, .eff (List Int) (fun b => ⟨[byts b], []⟩) (fun b => Sz b ∧ Byt b) (Sig × Mdl × TP) (fun _ y => SgB 5 2 y.1 ∧ MdB 16 3 y.2.1 ∧ TmB 1500 y.2.2) fun _ y => (.tup [sigA y.1, modelA y.2.1, termA y.2.2], []))
def A_l4Copy (v : ByteArray) (ks : List Tm) : List Ann :=
  [.mk Nat (fun x => x ≤ ks.length) (fun x => { fr := pad [.any, .ptr 0 0, .ptr 1 0, .ptr 2 0, i64 x] 27, H := [.var [st v, terms ks], .var [st ByteArray.empty, nilA], .var [st v, .osl 3 0 (ks.take x).length], arT (ks.take x)] }) (fun x => ks.length - x) (fun _ => [])]
def A_l4CopyO (v : ByteArray) (ks : List Tm) : List Ann :=
  [.mk Nat (fun x => x ≤ ks.length) (fun x => { fr := pad [.any, .ptr 1 0, .ptr 2 0, .ptr 3 0, i64 x] 27, H := [arT ks, .var [st v, .osl 0 0 ks.length], .var [st ByteArray.empty, nilA], .var [st v, .osl 4 0 (ks.take x).length], arT (ks.take x)] }) (fun x => ks.length - x) (fun _ => [])]
def A_l4Any (b : List Int) (p : Int) (s : Sig) (sort deep : Int) : List Ann :=
  [.mk (Nat × List Sym) (fun x => x.1 ≤ s.length ∧ x.2.length ≤ x.1 ∧ WdB deep x.2) (fun x => { fr := pad [.ptr 0 0, .any, i64 sort, i64 deep, .any, .ptr 1 0, .any, .any, .ptr 2 0, .osl 3 0 x.2.length, i64 x.1] 89, H := [.var [byts b, i64 p], .var [syms s], .var [st ByteArray.empty, nilA], arY x.2] }) (fun x => s.length - x.1) (fun _ => []),
   .mk (Sym × Nat × List Tm × Int) (fun x => WdB deep [x.1] ∧ x.2.1 ≤ x.1.2.1.length ∧ x.2.2.1.length = x.2.1 ∧ costTs x.2.2.1 ≤ x.2.1 * CB (deep - 1).toNat ∧ p ≤ x.2.2.2 ∧ x.2.2.2 ≤ p + 1 + x.2.1 * CB (deep - 1).toNat)
     (fun x => { fr := pad [.ptr 0 0, .any, .any, i64 deep, .any, .ptr 1 0, .any, .any, .ptr 2 0, .any, .any, .ptr 3 0, .ptr 4 0, i64 x.2.1] 89, H := [.var [byts b, i64 x.2.2.2], .var [syms s], .var [st ByteArray.empty, nilA], .var [st x.1.1, ints x.1.2.1, i64 x.1.2.2], .var [st x.1.1, .osl 5 0 x.2.2.1.length], arT x.2.2.1] }) (fun x => x.1.2.1.length - x.2.1) (fun _ => [])]
def A_yModelTerm : List Ann :=
  [.mk (Sig × Mdl × TP × Nat) (fun x => SgB 5 2 x.1 ∧ MdB 16 3 x.2.1 ∧ TmB 1500 x.2.2.1 ∧ x.2.2.2 ≤ x.1.length ∧ (modelTerm x.1 x.2.1 (.mk x.2.2.1.1 x.2.2.1.2)).2 = true)
    (fun x => { fr := pad [.any, .any, .any, .ptr 0 0, .ptr 1 0, .ptr 2 0, .ptr 3 0, .any, .any, .any, i64 (termSort x.1 (.mk x.2.2.1.1 x.2.2.1.2)).1, .any, i64 x.2.2.2] 190, H := [.var [syms x.1], .var [mrows x.2.1], .var [st x.2.2.1.1, terms x.2.2.1.2], .var [i64 (valT x.2.1 (.mk x.2.2.1.1 x.2.2.1.2)).1, i64 (valT x.2.1 (.mk x.2.2.1.1 x.2.2.1.2)).2]] }) (fun x => x.1.length - x.2.2.2)
    (fun x => [.mk Nat (fun k => k ≤ x.1.length)
      (fun k => { fr := pad [.any, .any, .any, .ptr 0 0, .ptr 1 0, .ptr 2 0, .ptr 3 0, .any, .any, .any, i64 (termSort x.1 (.mk x.2.2.1.1 x.2.2.1.2)).1, .any, i64 x.2.2.2, i64 k] 190, H := [.var [syms x.1], .var [mrows x.2.1], .var [st x.2.2.1.1, terms x.2.2.1.2], .var [i64 (valT x.2.1 (.mk x.2.2.1.1 x.2.2.1.2)).1, i64 (valT x.2.1 (.mk x.2.2.1.1 x.2.2.1.2)).2]] }) (fun k => x.1.length - k) (fun _ => [])])]
end Cg

/-
  Plain functions, and what is known of the codes' callees and loops: drawn atoms. No condition.
-/
set_option linter.unusedVariables false
set_option linter.unusedSimpArgs false
namespace Pl
/-- No term. -/
def noTP : TP := (ByteArray.empty, [])
/-- A small atom. -/
def AtB (n : Nat) (x : Atm) : Prop := costT (.mk x.2.1.1 x.2.1.2) ≤ 1500 ∧ costT (.mk x.2.2.1.1 x.2.2.1.2) ≤ 1500 ∧ x.2.2.2.1.length ≤ n ∧ x.2.2.2.2.1.length ≤ n ∧ ∀ t ∈ x.2.2.2.1, costT t ≤ 400
/-- A sum's parts with one more, if it is not there. -/
def PutB (ns : List Tm) (t : Tm) (n : Nat) (ms : List Tm) (ts : List Int) : Prop := ms.length ≤ n ∧ ts.length = ms.length ∧ ∀ u ∈ ms, u ∈ ns ∨ u = t
end Pl
namespace Cg
open Go Pl
/-- An atom whose parts the caller owns. -/
def atomO (i j : Nat) (x : Atm) : AV := .agg [i64 x.1, st x.2.1.1, terms x.2.1.2, st x.2.2.1.1, terms x.2.2.1.2, .osl i 0 x.2.2.2.1.length, .osl j 0 x.2.2.2.2.1.length, i64 x.2.2.2.2.2.1, bl x.2.2.2.2.2.2]
def zeroAt : List AV := [i64 0, st ByteArray.empty, nilA, st ByteArray.empty, nilA, nilA, nilA, i64 0, bl false]
def K_l6Put : Nat × Contract := (Nm.spec_l6Put, .efz (Atm × TP × Int) (fun x => ⟨[atomA x.1, termA x.2.1, i64 x.2.2], []⟩) (fun x => SmA x.1 ∧ SmT (.mk x.2.1.1 x.2.1.2) ∧ x.1.2.2.2.1.length ≤ 100 ∧ x.1.2.2.2.2.1.length = x.1.2.2.2.1.length) (List Tm × List Int)
  (fun x y => PutB x.1.2.2.2.1 (.mk x.2.1.1 x.2.1.2) (x.1.2.2.2.1.length + 1) y.1 y.2) fun x y => (atomO 0 1 (x.1.1, noTP, noTP, y.1, y.2, x.1.2.2.2.2.2.1, x.1.2.2.2.2.2.2), [arT y.1, arI y.2]))
def K_l6Any : Nat × Contract := (Nm.spec_l6Any, .eff BX (fun x => ⟨[.ptr 0 0, sigA x.2.2], [.var [byts x.1, i64 x.2.1]]⟩) (fun x => Rd 68719476736 x.1 x.2.1 ∧ SgB 5 2 x.2.2) (Atm × Int) (fun x y => AtB 3 y.1 ∧ x.2.1 ≤ y.2 ∧ y.2 ≤ x.2.1 + 500) fun x y => (atomO 1 2 y.1, [.var [byts x.1, i64 y.2], arT y.1.2.2.2.1, arI y.1.2.2.2.2.1]))
def K_l6Some : Nat × Contract := (Nm.spec_l6Some, .eff BX (fun x => ⟨[.ptr 0 0, sigA x.2.2], [.var [byts x.1, i64 x.2.1]]⟩) (fun x => Rd 34359738368 x.1 x.2.1 ∧ SgB 5 2 x.2.2) (Atm × Int) (fun x y => AtB 4 y.1 ∧ x.2.1 ≤ y.2 ∧ y.2 ≤ x.2.1 + 1500) fun x y => (atomA y.1, [.var [byts x.1, i64 y.2]]))

def A_l6Put (a : Atm) (v : ByteArray) (ks : List Tm) (n : Int) : List Ann :=
  [.mk (Nat × Bool × List Tm × List Int) (fun x => x.1 ≤ a.2.2.2.1.length ∧ PutB a.2.2.2.1 (.mk v ks) (x.1 + if x.2.1 = true then 1 else 0) x.2.2.1 x.2.2.2)
    (fun x => { fr := pad [.any, .any, i64 n, .ptr 0 0, .ptr 1 0, .any, .ptr 2 0, .ptr 3 0, bl x.2.1, i64 x.1] 90, H := [.var (atomC a), .var [st v, terms ks], .var zeroAt, .var [i64 a.1, st ByteArray.empty, nilA, st ByteArray.empty, nilA, .osl 4 0 x.2.2.1.length, .osl 5 0 x.2.2.2.length, i64 a.2.2.2.2.2.1, bl a.2.2.2.2.2.2], arT x.2.2.1, arI x.2.2.2] }) (fun x => a.2.2.2.1.length - x.1) (fun _ => [])]
def A_l6Any (b : List Int) (p : Int) (s : Sig) : List Ann :=
  [.mk (Int × List Tm × List Int × Int × Bool × Int) (fun x => 0 ≤ x.1 ∧ x.1 ≤ 3 ∧ (x.2.1.length : Int) + x.1 ≤ 3 ∧ x.2.2.1.length = x.2.1.length ∧ (∀ t ∈ x.2.1, costT t ≤ 400) ∧ p ≤ x.2.2.2.2.2 ∧ x.2.2.2.2.2 + 100 * x.1 ≤ p + 310)
    (fun x => { fr := pad [.ptr 0 0, .any, .any, .ptr 1 0, .ptr 2 0, .any, .ptr 3 0, i64 x.1] 54, H := [.var [byts b, i64 x.2.2.2.2.2], .var [syms s], .var zeroAt, .var [i64 2, st ByteArray.empty, terms [], st ByteArray.empty, terms [], .osl 4 0 x.2.1.length, .osl 5 0 x.2.2.1.length, i64 x.2.2.2.1, bl x.2.2.2.2.1], arT x.2.1, arI x.2.2.1] }) (fun x => x.1.toNat) (fun _ => [])]
end Cg

/-
  Plain functions, and what is known of the codes' callees and loops: drawn literals, and laws of literals in models. No condition.
-/
set_option linter.unusedVariables false
set_option linter.unusedSimpArgs false
namespace Pl
/-- A few small literals. -/
def LsB (n : Nat) (l : List Ltr) : Prop := l.length ≤ n ∧ ∀ x ∈ l, AtB 4 x.1
/-- Is a model one, and are the first literals so? -/
def eachIs (s : Sig) (m : Mdl) (l : List Ltr) (k : Nat) : Bool := modelOk s m && (l.take k).all (litIs s m)
def litNot (l : Ltr) : Ltr := if atomRight l.1 = true then (l.1, !l.2) else dL
end Pl
namespace Cg
open Go Pl
def K_l6Copy : Nat × Contract := (Nm.spec_l6Copy, .im Atm (fun x => [atomA x]) SmA atomA)
def K_sLitNot : Nat × Contract := (Nm.spec_LitNot, .im Ltr (fun x => [litA x]) (fun x => SmA x.1) fun x => litA (litNot x))
def K_l6Lit : Nat × Contract := (Nm.spec_l6Lit, .eff BX (fun x => ⟨[.ptr 0 0, sigA x.2.2], [.var [byts x.1, i64 x.2.1]]⟩) (fun x => Rd 34359738368 x.1 x.2.1 ∧ SgB 5 2 x.2.2) (Ltr × Int) (fun x y => AtB 4 y.1.1 ∧ x.2.1 ≤ y.2 ∧ y.2 ≤ x.2.1 + 600) fun x y => (litA y.1, [.var [byts x.1, i64 y.2]]))
def K_DrawModelLit : Nat × Contract := (Nm.spec_DrawModelLit, .eff (List Int) (fun b => ⟨[byts b], []⟩) (fun b => Sz b ∧ Byt b) (Sig × Mdl × Ltr) (fun _ y => SgB 5 2 y.1 ∧ MdB 16 3 y.2.1 ∧ AtB 4 y.2.2.1) fun _ y => (.tup [sigA y.1, modelA y.2.1, litA y.2.2], []))
def K_DrawModelAll : Nat × Contract := (Nm.spec_DrawModelAll, .eff (List Int) (fun b => ⟨[byts b], []⟩) (fun b => Sz b ∧ Byt b) (Sig × Mdl × List Ltr) (fun _ y => SgB 5 2 y.1 ∧ MdB 16 3 y.2.1 ∧ LsB 3 y.2.2) fun _ y => (.tup [sigA y.1, modelA y.2.1, litrs y.2.2], []))
def K_yModelNone : Nat × Contract := (Nm.laws_FnModelNone, .sc (List Int) (fun b => [byts b]) Byt fun _ => bl true)
def K_yModelLoose : Nat × Contract := (Nm.laws_FnModelLoose, .sc (List Int) (fun b => [byts b]) Byt fun _ => bl true)
def K_yModelTurn : Nat × Contract := (Nm.laws_FnModelTurn, .sc (List Int) (fun b => [byts b]) Byt fun _ => bl true)
def K_yModelAll : Nat × Contract := (Nm.laws_FnModelAll, .sc (List Int) (fun b => [byts b]) Byt fun _ => bl true)
def K_yModelBent : Nat × Contract := (Nm.laws_FnModelBent, .sc (List Int) (fun b => [byts b]) Byt fun _ => bl true)
def A_l6Copy (a : Atm) : List Ann :=
  [.mk Nat (fun x => x ≤ a.2.2.2.1.length) (fun x => { fr := pad [.any, .ptr 0 0, .ptr 1 0, .ptr 2 0, i64 x] 41, H := [.var (atomC a), .var zeroAt, .var [i64 a.1, st a.2.1.1, terms a.2.1.2, st a.2.2.1.1, terms a.2.2.1.2, .osl 3 0 (a.2.2.2.1.take x).length, .osl 4 0 a.2.2.2.2.1.length, i64 a.2.2.2.2.2.1, bl a.2.2.2.2.2.2], arT (a.2.2.2.1.take x), arI a.2.2.2.2.1] }) (fun x => a.2.2.2.1.length - x) (fun _ => [])]
def A_DrawModelAll : List Ann :=
  [.mk (List Int × Sig × Mdl × Int × List Ltr × Int) (fun x => SgB 5 2 x.2.1 ∧ MdB 16 3 x.2.2.1 ∧ 0 ≤ x.2.2.2.1 ∧ x.2.2.2.1 ≤ 3 ∧ LsB (3 - x.2.2.2.1.toNat) x.2.2.2.2.1 ∧ Rd (3000 - 700 * x.2.2.2.1 + 700) x.1 x.2.2.2.2.2)
    (fun x => { fr := pad [.any, .any, .ptr 0 0, .ptr 1 0, .any, .ptr 2 0, .ptr 3 0, .ptr 4 0, .osl 5 0 x.2.2.2.2.1.length, i64 x.2.2.2.1] 56, H := [.var [nilA], .var [nilA], .var [byts x.1, i64 x.2.2.2.2.2], .var [syms x.2.1], .var [mrows x.2.2.1], arL x.2.2.2.2.1] }) (fun x => x.2.2.2.1.toNat) (fun _ => [])]
def A_yModelAll : List Ann :=
  [.mk (Sig × Mdl × List Ltr × Nat) (fun x => SgB 5 2 x.1 ∧ MdB 16 3 x.2.1 ∧ LsB 3 x.2.2.1 ∧ x.2.2.2 ≤ x.2.2.1.length)
    (fun x => { fr := pad [.any, .any, .any, .ptr 0 0, .ptr 1 0, litrs x.2.2.1, bl (modelAll x.1 x.2.1 x.2.2.1), bl (eachIs x.1 x.2.1 x.2.2.1 x.2.2.2), i64 x.2.2.2] 68, H := [.var [syms x.1], .var [mrows x.2.1]] }) (fun x => x.2.2.1.length - x.2.2.2) (fun _ => [])]
end Cg

/-
  What is left to show of each function's code, printed by a program: Maf. No condition.
-/
set_option maxRecDepth 100000
set_option linter.unusedVariables false
namespace Cg
open Go Go.Proofs
theorem vc_DrawModelLit (b : List Int) : (∃ x : List Int,
 (Sz x ∧ Byt x) ∧ ((Is (byts b) (byts x) ∧ True) ∧ True) ∧ ∀ (y : List Int),
 Rd (0 : Int) y (0 : Int) →
 ∃ x : RX,
 Rd (549755813888 : Int) x.1 x.2 ∧ (((0 : Nat) = (0 : Nat) ∧ True) ∧ (Is (byts y) (byts x.1) ∧ (0 : Int) = x.2 ∧ True) ∧ True) ∧ ∀ (y : Pl.Sig),
 Pl.SgB (5 : Nat) (2 : Nat) y →
 ∃ x_1 : BX,
 (Rd (68719476736 : Int) x_1.1 x_1.2.1 ∧ Pl.SgB (5 : Nat) (2 : Nat) x_1.2.2) ∧ (((0 : Nat) = (0 : Nat) ∧ (Is (syms y) (syms x_1.2.2) ∧ True) ∧ True) ∧ (Is (byts x.1) (byts x_1.1) ∧ x.2 + (1 : Int) = x_1.2.1 ∧ True) ∧ True) ∧ ∀ (y_1 : Pl.Mdl × Int),
 Pl.MdB (16 : Nat) (3 : Nat) y_1.1 ∧ x_1.2.1 ≤ y_1.2 ∧ y_1.2 ≤ x_1.2.1 + (1100 : Int) →
 ((∃ x : BX,
 (Rd (34359738368 : Int) x.1 x.2.1 ∧ Pl.SgB (5 : Nat) (2 : Nat) x.2.2) ∧ (((0 : Nat) = (0 : Nat) ∧ (Is (syms y) (syms x.2.2) ∧ True) ∧ True) ∧ (Is (byts x_1.1) (byts x.1) ∧ y_1.2 = x.2.1 ∧ True) ∧ True) ∧ ∀ (y_2 : Pl.Atm × Int),
 Pl.AtB (4 : Nat) y_2.1 ∧ x.2.1 ≤ y_2.2 ∧ y_2.2 ≤ x.2.1 + (1500 : Int) →
 ∃ x_2 : List Int × Int × Int,
 Rd (1099511627776 : Int) x_2.1 x_2.2.1 ∧ (((0 : Nat) = (0 : Nat) ∧ (2 : Int) = x_2.2.2 ∧ True) ∧ (Is (byts x.1) (byts x_2.1) ∧ y_2.2 = x_2.2.1 ∧ True) ∧ True) ∧ ∀ (y_3 : Int),
 ((1 : Int) ≤ x_2.2.2 → (0 : Int) ≤ y_3 ∧ y_3 < x_2.2.2) ∧ (x_2.2.2 < (1 : Int) → y_3 = (0 : Int)) →
 ∃ y_4 : Pl.Sig × Pl.Mdl × Pl.Ltr,
 (Pl.SgB (5 : Nat) (2 : Nat) y_4.1 ∧ Pl.MdB (16 : Nat) (3 : Nat) y_4.2.1 ∧ Pl.AtB (4 : Nat) y_4.2.2.1) ∧ (((Is (syms y) (syms y_4.1) ∧ True) ∧ (Is (mrows y_1.1) (mrows y_4.2.1) ∧ True) ∧ (y_2.1.1 = y_4.2.2.1.1 ∧ y_2.1.2.1.1 = y_4.2.2.1.2.1.1 ∧ Is (terms y_2.1.2.1.2) (terms y_4.2.2.1.2.1.2) ∧ y_2.1.2.2.1.1 = y_4.2.2.1.2.2.1.1 ∧ Is (terms y_2.1.2.2.1.2) (terms y_4.2.2.1.2.2.1.2) ∧ Is (terms y_2.1.2.2.2.1) (terms y_4.2.2.1.2.2.2.1) ∧ Is (ints y_2.1.2.2.2.2.1) (ints y_4.2.2.1.2.2.2.2.1) ∧ y_2.1.2.2.2.2.2.1 = y_4.2.2.1.2.2.2.2.2.1 ∧ y_2.1.2.2.2.2.2.2 = y_4.2.2.1.2.2.2.2.2.2 ∧ (y_3 == (0 : Int)) = y_4.2.2.2 ∧ True) ∧ True) ∧ True) ∧ True) ∧ (∃ x : BX,
 (Rd (34359738368 : Int) x.1 x.2.1 ∧ Pl.SgB (5 : Nat) (2 : Nat) x.2.2) ∧ (((0 : Nat) = (0 : Nat) ∧ (Is (syms y) (syms x.2.2) ∧ True) ∧ True) ∧ (Is (byts x_1.1) (byts x.1) ∧ y_1.2 = x.2.1 ∧ True) ∧ True) ∧ ∀ (y_2 : Pl.Atm × Int),
 Pl.AtB (4 : Nat) y_2.1 ∧ x.2.1 ≤ y_2.2 ∧ y_2.2 ≤ x.2.1 + (1500 : Int) →
 ∃ x_2 : List Int × Int × Int,
 Rd (1099511627776 : Int) x_2.1 x_2.2.1 ∧ (((0 : Nat) = (0 : Nat) ∧ (2 : Int) = x_2.2.2 ∧ True) ∧ (Is (byts x.1) (byts x_2.1) ∧ y_2.2 = x_2.2.1 ∧ True) ∧ True) ∧ ∀ (y_3 : Int),
 ((1 : Int) ≤ x_2.2.2 → (0 : Int) ≤ y_3 ∧ y_3 < x_2.2.2) ∧ (x_2.2.2 < (1 : Int) → y_3 = (0 : Int)) →
 ∃ y_4 : Pl.Sig × Pl.Mdl × Pl.Ltr,
 (Pl.SgB (5 : Nat) (2 : Nat) y_4.1 ∧ Pl.MdB (16 : Nat) (3 : Nat) y_4.2.1 ∧ Pl.AtB (4 : Nat) y_4.2.2.1) ∧ (((Is (syms y) (syms y_4.1) ∧ True) ∧ (Is (mrows y_1.1) (mrows y_4.2.1) ∧ True) ∧ (y_2.1.1 = y_4.2.2.1.1 ∧ y_2.1.2.1.1 = y_4.2.2.1.2.1.1 ∧ Is (terms y_2.1.2.1.2) (terms y_4.2.2.1.2.1.2) ∧ y_2.1.2.2.1.1 = y_4.2.2.1.2.2.1.1 ∧ Is (terms y_2.1.2.2.1.2) (terms y_4.2.2.1.2.2.1.2) ∧ Is (terms y_2.1.2.2.2.1) (terms y_4.2.2.1.2.2.2.1) ∧ Is (ints y_2.1.2.2.2.2.1) (ints y_4.2.2.1.2.2.2.2.1) ∧ y_2.1.2.2.2.2.2.1 = y_4.2.2.1.2.2.2.2.2.1 ∧ y_2.1.2.2.2.2.2.2 = y_4.2.2.1.2.2.2.2.2.2 ∧ (y_3 == (0 : Int)) = y_4.2.2.2 ∧ True) ∧ True) ∧ True) ∧ True) ∧ ∃ x : BX,
 (Rd (34359738368 : Int) x.1 x.2.1 ∧ Pl.SgB (5 : Nat) (2 : Nat) x.2.2) ∧ (((0 : Nat) = (0 : Nat) ∧ (Is (syms y) (syms x.2.2) ∧ True) ∧ True) ∧ (Is (byts x_1.1) (byts x.1) ∧ y_1.2 = x.2.1 ∧ True) ∧ True) ∧ ∀ (y_2 : Pl.Atm × Int),
 Pl.AtB (4 : Nat) y_2.1 ∧ x.2.1 ≤ y_2.2 ∧ y_2.2 ≤ x.2.1 + (1500 : Int) →
 (∃ x_2 : List Int × Int × Int,
 Rd (1099511627776 : Int) x_2.1 x_2.2.1 ∧ (((0 : Nat) = (0 : Nat) ∧ (2 : Int) = x_2.2.2 ∧ True) ∧ (Is (byts x.1) (byts x_2.1) ∧ y_2.2 = x_2.2.1 ∧ True) ∧ True) ∧ ∀ (y_3 : Int),
 ((1 : Int) ≤ x_2.2.2 → (0 : Int) ≤ y_3 ∧ y_3 < x_2.2.2) ∧ (x_2.2.2 < (1 : Int) → y_3 = (0 : Int)) →
 ∃ y_4 : Pl.Sig × Pl.Mdl × Pl.Ltr,
 (Pl.SgB (5 : Nat) (2 : Nat) y_4.1 ∧ Pl.MdB (16 : Nat) (3 : Nat) y_4.2.1 ∧ Pl.AtB (4 : Nat) y_4.2.2.1) ∧ (((Is (syms y) (syms y_4.1) ∧ True) ∧ (Is (mrows y_1.1) (mrows y_4.2.1) ∧ True) ∧ (y_2.1.1 = y_4.2.2.1.1 ∧ y_2.1.2.1.1 = y_4.2.2.1.2.1.1 ∧ Is (terms y_2.1.2.1.2) (terms y_4.2.2.1.2.1.2) ∧ y_2.1.2.2.1.1 = y_4.2.2.1.2.2.1.1 ∧ Is (terms y_2.1.2.2.1.2) (terms y_4.2.2.1.2.2.1.2) ∧ Is (terms y_2.1.2.2.2.1) (terms y_4.2.2.1.2.2.2.1) ∧ Is (ints y_2.1.2.2.2.2.1) (ints y_4.2.2.1.2.2.2.2.1) ∧ y_2.1.2.2.2.2.2.1 = y_4.2.2.1.2.2.2.2.2.1 ∧ y_2.1.2.2.2.2.2.2 = y_4.2.2.1.2.2.2.2.2.2 ∧ (y_3 == (0 : Int)) = y_4.2.2.2 ∧ True) ∧ True) ∧ True) ∧ True) ∧ ∃ x_2 : List Int × Int × Int,
 Rd (1099511627776 : Int) x_2.1 x_2.2.1 ∧ (((0 : Nat) = (0 : Nat) ∧ (2 : Int) = x_2.2.2 ∧ True) ∧ (Is (byts x.1) (byts x_2.1) ∧ y_2.2 = x_2.2.1 ∧ True) ∧ True) ∧ ∀ (y_3 : Int),
 ((1 : Int) ≤ x_2.2.2 → (0 : Int) ≤ y_3 ∧ y_3 < x_2.2.2) ∧ (x_2.2.2 < (1 : Int) → y_3 = (0 : Int)) →
 (∃ y_4 : Pl.Sig × Pl.Mdl × Pl.Ltr,
 (Pl.SgB (5 : Nat) (2 : Nat) y_4.1 ∧ Pl.MdB (16 : Nat) (3 : Nat) y_4.2.1 ∧ Pl.AtB (4 : Nat) y_4.2.2.1) ∧ (((Is (syms y) (syms y_4.1) ∧ True) ∧ (Is (mrows y_1.1) (mrows y_4.2.1) ∧ True) ∧ (y_2.1.1 = y_4.2.2.1.1 ∧ y_2.1.2.1.1 = y_4.2.2.1.2.1.1 ∧ Is (terms y_2.1.2.1.2) (terms y_4.2.2.1.2.1.2) ∧ y_2.1.2.2.1.1 = y_4.2.2.1.2.2.1.1 ∧ Is (terms y_2.1.2.2.1.2) (terms y_4.2.2.1.2.2.1.2) ∧ Is (terms y_2.1.2.2.2.1) (terms y_4.2.2.1.2.2.2.1) ∧ Is (ints y_2.1.2.2.2.2.1) (ints y_4.2.2.1.2.2.2.2.1) ∧ y_2.1.2.2.2.2.2.1 = y_4.2.2.1.2.2.2.2.2.1 ∧ y_2.1.2.2.2.2.2.2 = y_4.2.2.1.2.2.2.2.2.2 ∧ (y_3 == (0 : Int)) = y_4.2.2.2 ∧ True) ∧ True) ∧ True) ∧ True) ∧ ∃ y_4 : Pl.Sig × Pl.Mdl × Pl.Ltr,
 (Pl.SgB (5 : Nat) (2 : Nat) y_4.1 ∧ Pl.MdB (16 : Nat) (3 : Nat) y_4.2.1 ∧ Pl.AtB (4 : Nat) y_4.2.2.1) ∧ (((Is (syms y) (syms y_4.1) ∧ True) ∧ (Is (mrows y_1.1) (mrows y_4.2.1) ∧ True) ∧ (y_2.1.1 = y_4.2.2.1.1 ∧ y_2.1.2.1.1 = y_4.2.2.1.2.1.1 ∧ Is (terms y_2.1.2.1.2) (terms y_4.2.2.1.2.1.2) ∧ y_2.1.2.2.1.1 = y_4.2.2.1.2.2.1.1 ∧ Is (terms y_2.1.2.2.1.2) (terms y_4.2.2.1.2.2.1.2) ∧ Is (terms y_2.1.2.2.2.1) (terms y_4.2.2.1.2.2.2.1) ∧ Is (ints y_2.1.2.2.2.2.1) (ints y_4.2.2.1.2.2.2.2.1) ∧ y_2.1.2.2.2.2.2.1 = y_4.2.2.1.2.2.2.2.2.1 ∧ y_2.1.2.2.2.2.2.2 = y_4.2.2.1.2.2.2.2.2.2 ∧ (y_3 == (0 : Int)) = y_4.2.2.2 ∧ True) ∧ True) ∧ True) ∧ True) ∧ ((∃ x : BX,
 (Rd (34359738368 : Int) x.1 x.2.1 ∧ Pl.SgB (5 : Nat) (2 : Nat) x.2.2) ∧ (((0 : Nat) = (0 : Nat) ∧ (Is (syms y) (syms x.2.2) ∧ True) ∧ True) ∧ (Is (byts x_1.1) (byts x.1) ∧ y_1.2 = x.2.1 ∧ True) ∧ True) ∧ ∀ (y_2 : Pl.Atm × Int),
 Pl.AtB (4 : Nat) y_2.1 ∧ x.2.1 ≤ y_2.2 ∧ y_2.2 ≤ x.2.1 + (1500 : Int) →
 ∃ x_2 : List Int × Int × Int,
 Rd (1099511627776 : Int) x_2.1 x_2.2.1 ∧ (((0 : Nat) = (0 : Nat) ∧ (2 : Int) = x_2.2.2 ∧ True) ∧ (Is (byts x.1) (byts x_2.1) ∧ y_2.2 = x_2.2.1 ∧ True) ∧ True) ∧ ∀ (y_3 : Int),
 ((1 : Int) ≤ x_2.2.2 → (0 : Int) ≤ y_3 ∧ y_3 < x_2.2.2) ∧ (x_2.2.2 < (1 : Int) → y_3 = (0 : Int)) →
 ∃ y_4 : Pl.Sig × Pl.Mdl × Pl.Ltr,
 (Pl.SgB (5 : Nat) (2 : Nat) y_4.1 ∧ Pl.MdB (16 : Nat) (3 : Nat) y_4.2.1 ∧ Pl.AtB (4 : Nat) y_4.2.2.1) ∧ (((Is (syms y) (syms y_4.1) ∧ True) ∧ (Is (mrows y_1.1) (mrows y_4.2.1) ∧ True) ∧ (y_2.1.1 = y_4.2.2.1.1 ∧ y_2.1.2.1.1 = y_4.2.2.1.2.1.1 ∧ Is (terms y_2.1.2.1.2) (terms y_4.2.2.1.2.1.2) ∧ y_2.1.2.2.1.1 = y_4.2.2.1.2.2.1.1 ∧ Is (terms y_2.1.2.2.1.2) (terms y_4.2.2.1.2.2.1.2) ∧ Is (terms y_2.1.2.2.2.1) (terms y_4.2.2.1.2.2.2.1) ∧ Is (ints y_2.1.2.2.2.2.1) (ints y_4.2.2.1.2.2.2.2.1) ∧ y_2.1.2.2.2.2.2.1 = y_4.2.2.1.2.2.2.2.2.1 ∧ y_2.1.2.2.2.2.2.2 = y_4.2.2.1.2.2.2.2.2.2 ∧ (y_3 == (0 : Int)) = y_4.2.2.2 ∧ True) ∧ True) ∧ True) ∧ True) ∧ (∃ x : BX,
 (Rd (34359738368 : Int) x.1 x.2.1 ∧ Pl.SgB (5 : Nat) (2 : Nat) x.2.2) ∧ (((0 : Nat) = (0 : Nat) ∧ (Is (syms y) (syms x.2.2) ∧ True) ∧ True) ∧ (Is (byts x_1.1) (byts x.1) ∧ y_1.2 = x.2.1 ∧ True) ∧ True) ∧ ∀ (y_2 : Pl.Atm × Int),
 Pl.AtB (4 : Nat) y_2.1 ∧ x.2.1 ≤ y_2.2 ∧ y_2.2 ≤ x.2.1 + (1500 : Int) →
 ∃ x_2 : List Int × Int × Int,
 Rd (1099511627776 : Int) x_2.1 x_2.2.1 ∧ (((0 : Nat) = (0 : Nat) ∧ (2 : Int) = x_2.2.2 ∧ True) ∧ (Is (byts x.1) (byts x_2.1) ∧ y_2.2 = x_2.2.1 ∧ True) ∧ True) ∧ ∀ (y_3 : Int),
 ((1 : Int) ≤ x_2.2.2 → (0 : Int) ≤ y_3 ∧ y_3 < x_2.2.2) ∧ (x_2.2.2 < (1 : Int) → y_3 = (0 : Int)) →
 ∃ y_4 : Pl.Sig × Pl.Mdl × Pl.Ltr,
 (Pl.SgB (5 : Nat) (2 : Nat) y_4.1 ∧ Pl.MdB (16 : Nat) (3 : Nat) y_4.2.1 ∧ Pl.AtB (4 : Nat) y_4.2.2.1) ∧ (((Is (syms y) (syms y_4.1) ∧ True) ∧ (Is (mrows y_1.1) (mrows y_4.2.1) ∧ True) ∧ (y_2.1.1 = y_4.2.2.1.1 ∧ y_2.1.2.1.1 = y_4.2.2.1.2.1.1 ∧ Is (terms y_2.1.2.1.2) (terms y_4.2.2.1.2.1.2) ∧ y_2.1.2.2.1.1 = y_4.2.2.1.2.2.1.1 ∧ Is (terms y_2.1.2.2.1.2) (terms y_4.2.2.1.2.2.1.2) ∧ Is (terms y_2.1.2.2.2.1) (terms y_4.2.2.1.2.2.2.1) ∧ Is (ints y_2.1.2.2.2.2.1) (ints y_4.2.2.1.2.2.2.2.1) ∧ y_2.1.2.2.2.2.2.1 = y_4.2.2.1.2.2.2.2.2.1 ∧ y_2.1.2.2.2.2.2.2 = y_4.2.2.1.2.2.2.2.2.2 ∧ (y_3 == (0 : Int)) = y_4.2.2.2 ∧ True) ∧ True) ∧ True) ∧ True) ∧ ∃ x : BX,
 (Rd (34359738368 : Int) x.1 x.2.1 ∧ Pl.SgB (5 : Nat) (2 : Nat) x.2.2) ∧ (((0 : Nat) = (0 : Nat) ∧ (Is (syms y) (syms x.2.2) ∧ True) ∧ True) ∧ (Is (byts x_1.1) (byts x.1) ∧ y_1.2 = x.2.1 ∧ True) ∧ True) ∧ ∀ (y_2 : Pl.Atm × Int),
 Pl.AtB (4 : Nat) y_2.1 ∧ x.2.1 ≤ y_2.2 ∧ y_2.2 ≤ x.2.1 + (1500 : Int) →
 (∃ x_2 : List Int × Int × Int,
 Rd (1099511627776 : Int) x_2.1 x_2.2.1 ∧ (((0 : Nat) = (0 : Nat) ∧ (2 : Int) = x_2.2.2 ∧ True) ∧ (Is (byts x.1) (byts x_2.1) ∧ y_2.2 = x_2.2.1 ∧ True) ∧ True) ∧ ∀ (y_3 : Int),
 ((1 : Int) ≤ x_2.2.2 → (0 : Int) ≤ y_3 ∧ y_3 < x_2.2.2) ∧ (x_2.2.2 < (1 : Int) → y_3 = (0 : Int)) →
 ∃ y_4 : Pl.Sig × Pl.Mdl × Pl.Ltr,
 (Pl.SgB (5 : Nat) (2 : Nat) y_4.1 ∧ Pl.MdB (16 : Nat) (3 : Nat) y_4.2.1 ∧ Pl.AtB (4 : Nat) y_4.2.2.1) ∧ (((Is (syms y) (syms y_4.1) ∧ True) ∧ (Is (mrows y_1.1) (mrows y_4.2.1) ∧ True) ∧ (y_2.1.1 = y_4.2.2.1.1 ∧ y_2.1.2.1.1 = y_4.2.2.1.2.1.1 ∧ Is (terms y_2.1.2.1.2) (terms y_4.2.2.1.2.1.2) ∧ y_2.1.2.2.1.1 = y_4.2.2.1.2.2.1.1 ∧ Is (terms y_2.1.2.2.1.2) (terms y_4.2.2.1.2.2.1.2) ∧ Is (terms y_2.1.2.2.2.1) (terms y_4.2.2.1.2.2.2.1) ∧ Is (ints y_2.1.2.2.2.2.1) (ints y_4.2.2.1.2.2.2.2.1) ∧ y_2.1.2.2.2.2.2.1 = y_4.2.2.1.2.2.2.2.2.1 ∧ y_2.1.2.2.2.2.2.2 = y_4.2.2.1.2.2.2.2.2.2 ∧ (y_3 == (0 : Int)) = y_4.2.2.2 ∧ True) ∧ True) ∧ True) ∧ True) ∧ ∃ x_2 : List Int × Int × Int,
 Rd (1099511627776 : Int) x_2.1 x_2.2.1 ∧ (((0 : Nat) = (0 : Nat) ∧ (2 : Int) = x_2.2.2 ∧ True) ∧ (Is (byts x.1) (byts x_2.1) ∧ y_2.2 = x_2.2.1 ∧ True) ∧ True) ∧ ∀ (y_3 : Int),
 ((1 : Int) ≤ x_2.2.2 → (0 : Int) ≤ y_3 ∧ y_3 < x_2.2.2) ∧ (x_2.2.2 < (1 : Int) → y_3 = (0 : Int)) →
 ∃ y_4 : Pl.Sig × Pl.Mdl × Pl.Ltr,
 (Pl.SgB (5 : Nat) (2 : Nat) y_4.1 ∧ Pl.MdB (16 : Nat) (3 : Nat) y_4.2.1 ∧ Pl.AtB (4 : Nat) y_4.2.2.1) ∧ (((Is (syms y) (syms y_4.1) ∧ True) ∧ (Is (mrows y_1.1) (mrows y_4.2.1) ∧ True) ∧ (y_2.1.1 = y_4.2.2.1.1 ∧ y_2.1.2.1.1 = y_4.2.2.1.2.1.1 ∧ Is (terms y_2.1.2.1.2) (terms y_4.2.2.1.2.1.2) ∧ y_2.1.2.2.1.1 = y_4.2.2.1.2.2.1.1 ∧ Is (terms y_2.1.2.2.1.2) (terms y_4.2.2.1.2.2.1.2) ∧ Is (terms y_2.1.2.2.2.1) (terms y_4.2.2.1.2.2.2.1) ∧ Is (ints y_2.1.2.2.2.2.1) (ints y_4.2.2.1.2.2.2.2.1) ∧ y_2.1.2.2.2.2.2.1 = y_4.2.2.1.2.2.2.2.2.1 ∧ y_2.1.2.2.2.2.2.2 = y_4.2.2.1.2.2.2.2.2.2 ∧ (y_3 == (0 : Int)) = y_4.2.2.2 ∧ True) ∧ True) ∧ True) ∧ True) ∧ ((∃ x : BX,
 (Rd (34359738368 : Int) x.1 x.2.1 ∧ Pl.SgB (5 : Nat) (2 : Nat) x.2.2) ∧ (((0 : Nat) = (0 : Nat) ∧ (Is (syms y) (syms x.2.2) ∧ True) ∧ True) ∧ (Is (byts x_1.1) (byts x.1) ∧ y_1.2 = x.2.1 ∧ True) ∧ True) ∧ ∀ (y_2 : Pl.Atm × Int),
 Pl.AtB (4 : Nat) y_2.1 ∧ x.2.1 ≤ y_2.2 ∧ y_2.2 ≤ x.2.1 + (1500 : Int) →
 ∃ x_2 : List Int × Int × Int,
 Rd (1099511627776 : Int) x_2.1 x_2.2.1 ∧ (((0 : Nat) = (0 : Nat) ∧ (2 : Int) = x_2.2.2 ∧ True) ∧ (Is (byts x.1) (byts x_2.1) ∧ y_2.2 = x_2.2.1 ∧ True) ∧ True) ∧ ∀ (y_3 : Int),
 ((1 : Int) ≤ x_2.2.2 → (0 : Int) ≤ y_3 ∧ y_3 < x_2.2.2) ∧ (x_2.2.2 < (1 : Int) → y_3 = (0 : Int)) →
 ∃ y_4 : Pl.Sig × Pl.Mdl × Pl.Ltr,
 (Pl.SgB (5 : Nat) (2 : Nat) y_4.1 ∧ Pl.MdB (16 : Nat) (3 : Nat) y_4.2.1 ∧ Pl.AtB (4 : Nat) y_4.2.2.1) ∧ (((Is (syms y) (syms y_4.1) ∧ True) ∧ (Is (mrows y_1.1) (mrows y_4.2.1) ∧ True) ∧ (y_2.1.1 = y_4.2.2.1.1 ∧ y_2.1.2.1.1 = y_4.2.2.1.2.1.1 ∧ Is (terms y_2.1.2.1.2) (terms y_4.2.2.1.2.1.2) ∧ y_2.1.2.2.1.1 = y_4.2.2.1.2.2.1.1 ∧ Is (terms y_2.1.2.2.1.2) (terms y_4.2.2.1.2.2.1.2) ∧ Is (terms y_2.1.2.2.2.1) (terms y_4.2.2.1.2.2.2.1) ∧ Is (ints y_2.1.2.2.2.2.1) (ints y_4.2.2.1.2.2.2.2.1) ∧ y_2.1.2.2.2.2.2.1 = y_4.2.2.1.2.2.2.2.2.1 ∧ y_2.1.2.2.2.2.2.2 = y_4.2.2.1.2.2.2.2.2.2 ∧ (y_3 == (0 : Int)) = y_4.2.2.2 ∧ True) ∧ True) ∧ True) ∧ True) ∧ ∃ x : BX,
 (Rd (34359738368 : Int) x.1 x.2.1 ∧ Pl.SgB (5 : Nat) (2 : Nat) x.2.2) ∧ (((0 : Nat) = (0 : Nat) ∧ (Is (syms y) (syms x.2.2) ∧ True) ∧ True) ∧ (Is (byts x_1.1) (byts x.1) ∧ y_1.2 = x.2.1 ∧ True) ∧ True) ∧ ∀ (y_2 : Pl.Atm × Int),
 Pl.AtB (4 : Nat) y_2.1 ∧ x.2.1 ≤ y_2.2 ∧ y_2.2 ≤ x.2.1 + (1500 : Int) →
 (∃ x_2 : List Int × Int × Int,
 Rd (1099511627776 : Int) x_2.1 x_2.2.1 ∧ (((0 : Nat) = (0 : Nat) ∧ (2 : Int) = x_2.2.2 ∧ True) ∧ (Is (byts x.1) (byts x_2.1) ∧ y_2.2 = x_2.2.1 ∧ True) ∧ True) ∧ ∀ (y_3 : Int),
 ((1 : Int) ≤ x_2.2.2 → (0 : Int) ≤ y_3 ∧ y_3 < x_2.2.2) ∧ (x_2.2.2 < (1 : Int) → y_3 = (0 : Int)) →
 ∃ y_4 : Pl.Sig × Pl.Mdl × Pl.Ltr,
 (Pl.SgB (5 : Nat) (2 : Nat) y_4.1 ∧ Pl.MdB (16 : Nat) (3 : Nat) y_4.2.1 ∧ Pl.AtB (4 : Nat) y_4.2.2.1) ∧ (((Is (syms y) (syms y_4.1) ∧ True) ∧ (Is (mrows y_1.1) (mrows y_4.2.1) ∧ True) ∧ (y_2.1.1 = y_4.2.2.1.1 ∧ y_2.1.2.1.1 = y_4.2.2.1.2.1.1 ∧ Is (terms y_2.1.2.1.2) (terms y_4.2.2.1.2.1.2) ∧ y_2.1.2.2.1.1 = y_4.2.2.1.2.2.1.1 ∧ Is (terms y_2.1.2.2.1.2) (terms y_4.2.2.1.2.2.1.2) ∧ Is (terms y_2.1.2.2.2.1) (terms y_4.2.2.1.2.2.2.1) ∧ Is (ints y_2.1.2.2.2.2.1) (ints y_4.2.2.1.2.2.2.2.1) ∧ y_2.1.2.2.2.2.2.1 = y_4.2.2.1.2.2.2.2.2.1 ∧ y_2.1.2.2.2.2.2.2 = y_4.2.2.1.2.2.2.2.2.2 ∧ (y_3 == (0 : Int)) = y_4.2.2.2 ∧ True) ∧ True) ∧ True) ∧ True) ∧ ∃ x_2 : List Int × Int × Int,
 Rd (1099511627776 : Int) x_2.1 x_2.2.1 ∧ (((0 : Nat) = (0 : Nat) ∧ (2 : Int) = x_2.2.2 ∧ True) ∧ (Is (byts x.1) (byts x_2.1) ∧ y_2.2 = x_2.2.1 ∧ True) ∧ True) ∧ ∀ (y_3 : Int),
 ((1 : Int) ≤ x_2.2.2 → (0 : Int) ≤ y_3 ∧ y_3 < x_2.2.2) ∧ (x_2.2.2 < (1 : Int) → y_3 = (0 : Int)) →
 (∃ y_4 : Pl.Sig × Pl.Mdl × Pl.Ltr,
 (Pl.SgB (5 : Nat) (2 : Nat) y_4.1 ∧ Pl.MdB (16 : Nat) (3 : Nat) y_4.2.1 ∧ Pl.AtB (4 : Nat) y_4.2.2.1) ∧ (((Is (syms y) (syms y_4.1) ∧ True) ∧ (Is (mrows y_1.1) (mrows y_4.2.1) ∧ True) ∧ (y_2.1.1 = y_4.2.2.1.1 ∧ y_2.1.2.1.1 = y_4.2.2.1.2.1.1 ∧ Is (terms y_2.1.2.1.2) (terms y_4.2.2.1.2.1.2) ∧ y_2.1.2.2.1.1 = y_4.2.2.1.2.2.1.1 ∧ Is (terms y_2.1.2.2.1.2) (terms y_4.2.2.1.2.2.1.2) ∧ Is (terms y_2.1.2.2.2.1) (terms y_4.2.2.1.2.2.2.1) ∧ Is (ints y_2.1.2.2.2.2.1) (ints y_4.2.2.1.2.2.2.2.1) ∧ y_2.1.2.2.2.2.2.1 = y_4.2.2.1.2.2.2.2.2.1 ∧ y_2.1.2.2.2.2.2.2 = y_4.2.2.1.2.2.2.2.2.2 ∧ (y_3 == (0 : Int)) = y_4.2.2.2 ∧ True) ∧ True) ∧ True) ∧ True) ∧ ∃ y_4 : Pl.Sig × Pl.Mdl × Pl.Ltr,
 (Pl.SgB (5 : Nat) (2 : Nat) y_4.1 ∧ Pl.MdB (16 : Nat) (3 : Nat) y_4.2.1 ∧ Pl.AtB (4 : Nat) y_4.2.2.1) ∧ (((Is (syms y) (syms y_4.1) ∧ True) ∧ (Is (mrows y_1.1) (mrows y_4.2.1) ∧ True) ∧ (y_2.1.1 = y_4.2.2.1.1 ∧ y_2.1.2.1.1 = y_4.2.2.1.2.1.1 ∧ Is (terms y_2.1.2.1.2) (terms y_4.2.2.1.2.1.2) ∧ y_2.1.2.2.1.1 = y_4.2.2.1.2.2.1.1 ∧ Is (terms y_2.1.2.2.1.2) (terms y_4.2.2.1.2.2.1.2) ∧ Is (terms y_2.1.2.2.2.1) (terms y_4.2.2.1.2.2.2.1) ∧ Is (ints y_2.1.2.2.2.2.1) (ints y_4.2.2.1.2.2.2.2.1) ∧ y_2.1.2.2.2.2.2.1 = y_4.2.2.1.2.2.2.2.2.1 ∧ y_2.1.2.2.2.2.2.2 = y_4.2.2.1.2.2.2.2.2.2 ∧ (y_3 == (0 : Int)) = y_4.2.2.2 ∧ True) ∧ True) ∧ True) ∧ True) ∧ ((∃ x : BX,
 (Rd (34359738368 : Int) x.1 x.2.1 ∧ Pl.SgB (5 : Nat) (2 : Nat) x.2.2) ∧ (((0 : Nat) = (0 : Nat) ∧ (Is (syms y) (syms x.2.2) ∧ True) ∧ True) ∧ (Is (byts x_1.1) (byts x.1) ∧ y_1.2 = x.2.1 ∧ True) ∧ True) ∧ ∀ (y_2 : Pl.Atm × Int),
 Pl.AtB (4 : Nat) y_2.1 ∧ x.2.1 ≤ y_2.2 ∧ y_2.2 ≤ x.2.1 + (1500 : Int) →
 ∃ x_2 : List Int × Int × Int,
 Rd (1099511627776 : Int) x_2.1 x_2.2.1 ∧ (((0 : Nat) = (0 : Nat) ∧ (2 : Int) = x_2.2.2 ∧ True) ∧ (Is (byts x.1) (byts x_2.1) ∧ y_2.2 = x_2.2.1 ∧ True) ∧ True) ∧ ∀ (y_3 : Int),
 ((1 : Int) ≤ x_2.2.2 → (0 : Int) ≤ y_3 ∧ y_3 < x_2.2.2) ∧ (x_2.2.2 < (1 : Int) → y_3 = (0 : Int)) →
 ∃ y_4 : Pl.Sig × Pl.Mdl × Pl.Ltr,
 (Pl.SgB (5 : Nat) (2 : Nat) y_4.1 ∧ Pl.MdB (16 : Nat) (3 : Nat) y_4.2.1 ∧ Pl.AtB (4 : Nat) y_4.2.2.1) ∧ (((Is (syms y) (syms y_4.1) ∧ True) ∧ (Is (mrows y_1.1) (mrows y_4.2.1) ∧ True) ∧ (y_2.1.1 = y_4.2.2.1.1 ∧ y_2.1.2.1.1 = y_4.2.2.1.2.1.1 ∧ Is (terms y_2.1.2.1.2) (terms y_4.2.2.1.2.1.2) ∧ y_2.1.2.2.1.1 = y_4.2.2.1.2.2.1.1 ∧ Is (terms y_2.1.2.2.1.2) (terms y_4.2.2.1.2.2.1.2) ∧ Is (terms y_2.1.2.2.2.1) (terms y_4.2.2.1.2.2.2.1) ∧ Is (ints y_2.1.2.2.2.2.1) (ints y_4.2.2.1.2.2.2.2.1) ∧ y_2.1.2.2.2.2.2.1 = y_4.2.2.1.2.2.2.2.2.1 ∧ y_2.1.2.2.2.2.2.2 = y_4.2.2.1.2.2.2.2.2.2 ∧ (y_3 == (0 : Int)) = y_4.2.2.2 ∧ True) ∧ True) ∧ True) ∧ True) ∧ ∃ x : BX,
 (Rd (34359738368 : Int) x.1 x.2.1 ∧ Pl.SgB (5 : Nat) (2 : Nat) x.2.2) ∧ (((0 : Nat) = (0 : Nat) ∧ (Is (syms y) (syms x.2.2) ∧ True) ∧ True) ∧ (Is (byts x_1.1) (byts x.1) ∧ y_1.2 = x.2.1 ∧ True) ∧ True) ∧ ∀ (y_2 : Pl.Atm × Int),
 Pl.AtB (4 : Nat) y_2.1 ∧ x.2.1 ≤ y_2.2 ∧ y_2.2 ≤ x.2.1 + (1500 : Int) →
 (∃ x_2 : List Int × Int × Int,
 Rd (1099511627776 : Int) x_2.1 x_2.2.1 ∧ (((0 : Nat) = (0 : Nat) ∧ (2 : Int) = x_2.2.2 ∧ True) ∧ (Is (byts x.1) (byts x_2.1) ∧ y_2.2 = x_2.2.1 ∧ True) ∧ True) ∧ ∀ (y_3 : Int),
 ((1 : Int) ≤ x_2.2.2 → (0 : Int) ≤ y_3 ∧ y_3 < x_2.2.2) ∧ (x_2.2.2 < (1 : Int) → y_3 = (0 : Int)) →
 ∃ y_4 : Pl.Sig × Pl.Mdl × Pl.Ltr,
 (Pl.SgB (5 : Nat) (2 : Nat) y_4.1 ∧ Pl.MdB (16 : Nat) (3 : Nat) y_4.2.1 ∧ Pl.AtB (4 : Nat) y_4.2.2.1) ∧ (((Is (syms y) (syms y_4.1) ∧ True) ∧ (Is (mrows y_1.1) (mrows y_4.2.1) ∧ True) ∧ (y_2.1.1 = y_4.2.2.1.1 ∧ y_2.1.2.1.1 = y_4.2.2.1.2.1.1 ∧ Is (terms y_2.1.2.1.2) (terms y_4.2.2.1.2.1.2) ∧ y_2.1.2.2.1.1 = y_4.2.2.1.2.2.1.1 ∧ Is (terms y_2.1.2.2.1.2) (terms y_4.2.2.1.2.2.1.2) ∧ Is (terms y_2.1.2.2.2.1) (terms y_4.2.2.1.2.2.2.1) ∧ Is (ints y_2.1.2.2.2.2.1) (ints y_4.2.2.1.2.2.2.2.1) ∧ y_2.1.2.2.2.2.2.1 = y_4.2.2.1.2.2.2.2.2.1 ∧ y_2.1.2.2.2.2.2.2 = y_4.2.2.1.2.2.2.2.2.2 ∧ (y_3 == (0 : Int)) = y_4.2.2.2 ∧ True) ∧ True) ∧ True) ∧ True) ∧ ∃ x_2 : List Int × Int × Int,
 Rd (1099511627776 : Int) x_2.1 x_2.2.1 ∧ (((0 : Nat) = (0 : Nat) ∧ (2 : Int) = x_2.2.2 ∧ True) ∧ (Is (byts x.1) (byts x_2.1) ∧ y_2.2 = x_2.2.1 ∧ True) ∧ True) ∧ ∀ (y_3 : Int),
 ((1 : Int) ≤ x_2.2.2 → (0 : Int) ≤ y_3 ∧ y_3 < x_2.2.2) ∧ (x_2.2.2 < (1 : Int) → y_3 = (0 : Int)) →
 ∃ y_4 : Pl.Sig × Pl.Mdl × Pl.Ltr,
 (Pl.SgB (5 : Nat) (2 : Nat) y_4.1 ∧ Pl.MdB (16 : Nat) (3 : Nat) y_4.2.1 ∧ Pl.AtB (4 : Nat) y_4.2.2.1) ∧ (((Is (syms y) (syms y_4.1) ∧ True) ∧ (Is (mrows y_1.1) (mrows y_4.2.1) ∧ True) ∧ (y_2.1.1 = y_4.2.2.1.1 ∧ y_2.1.2.1.1 = y_4.2.2.1.2.1.1 ∧ Is (terms y_2.1.2.1.2) (terms y_4.2.2.1.2.1.2) ∧ y_2.1.2.2.1.1 = y_4.2.2.1.2.2.1.1 ∧ Is (terms y_2.1.2.2.1.2) (terms y_4.2.2.1.2.2.1.2) ∧ Is (terms y_2.1.2.2.2.1) (terms y_4.2.2.1.2.2.2.1) ∧ Is (ints y_2.1.2.2.2.2.1) (ints y_4.2.2.1.2.2.2.2.1) ∧ y_2.1.2.2.2.2.2.1 = y_4.2.2.1.2.2.2.2.2.1 ∧ y_2.1.2.2.2.2.2.2 = y_4.2.2.1.2.2.2.2.2.2 ∧ (y_3 == (0 : Int)) = y_4.2.2.2 ∧ True) ∧ True) ∧ True) ∧ True) ∧ ∃ x : BX,
 (Rd (34359738368 : Int) x.1 x.2.1 ∧ Pl.SgB (5 : Nat) (2 : Nat) x.2.2) ∧ (((0 : Nat) = (0 : Nat) ∧ (Is (syms y) (syms x.2.2) ∧ True) ∧ True) ∧ (Is (byts x_1.1) (byts x.1) ∧ y_1.2 = x.2.1 ∧ True) ∧ True) ∧ ∀ (y_2 : Pl.Atm × Int),
 Pl.AtB (4 : Nat) y_2.1 ∧ x.2.1 ≤ y_2.2 ∧ y_2.2 ≤ x.2.1 + (1500 : Int) →
 ((∃ x_2 : List Int × Int × Int,
 Rd (1099511627776 : Int) x_2.1 x_2.2.1 ∧ (((0 : Nat) = (0 : Nat) ∧ (2 : Int) = x_2.2.2 ∧ True) ∧ (Is (byts x.1) (byts x_2.1) ∧ y_2.2 = x_2.2.1 ∧ True) ∧ True) ∧ ∀ (y_3 : Int),
 ((1 : Int) ≤ x_2.2.2 → (0 : Int) ≤ y_3 ∧ y_3 < x_2.2.2) ∧ (x_2.2.2 < (1 : Int) → y_3 = (0 : Int)) →
 ∃ y_4 : Pl.Sig × Pl.Mdl × Pl.Ltr,
 (Pl.SgB (5 : Nat) (2 : Nat) y_4.1 ∧ Pl.MdB (16 : Nat) (3 : Nat) y_4.2.1 ∧ Pl.AtB (4 : Nat) y_4.2.2.1) ∧ (((Is (syms y) (syms y_4.1) ∧ True) ∧ (Is (mrows y_1.1) (mrows y_4.2.1) ∧ True) ∧ (y_2.1.1 = y_4.2.2.1.1 ∧ y_2.1.2.1.1 = y_4.2.2.1.2.1.1 ∧ Is (terms y_2.1.2.1.2) (terms y_4.2.2.1.2.1.2) ∧ y_2.1.2.2.1.1 = y_4.2.2.1.2.2.1.1 ∧ Is (terms y_2.1.2.2.1.2) (terms y_4.2.2.1.2.2.1.2) ∧ Is (terms y_2.1.2.2.2.1) (terms y_4.2.2.1.2.2.2.1) ∧ Is (ints y_2.1.2.2.2.2.1) (ints y_4.2.2.1.2.2.2.2.1) ∧ y_2.1.2.2.2.2.2.1 = y_4.2.2.1.2.2.2.2.2.1 ∧ y_2.1.2.2.2.2.2.2 = y_4.2.2.1.2.2.2.2.2.2 ∧ (y_3 == (0 : Int)) = y_4.2.2.2 ∧ True) ∧ True) ∧ True) ∧ True) ∧ ∃ x_2 : List Int × Int × Int,
 Rd (1099511627776 : Int) x_2.1 x_2.2.1 ∧ (((0 : Nat) = (0 : Nat) ∧ (2 : Int) = x_2.2.2 ∧ True) ∧ (Is (byts x.1) (byts x_2.1) ∧ y_2.2 = x_2.2.1 ∧ True) ∧ True) ∧ ∀ (y_3 : Int),
 ((1 : Int) ≤ x_2.2.2 → (0 : Int) ≤ y_3 ∧ y_3 < x_2.2.2) ∧ (x_2.2.2 < (1 : Int) → y_3 = (0 : Int)) →
 (∃ y_4 : Pl.Sig × Pl.Mdl × Pl.Ltr,
 (Pl.SgB (5 : Nat) (2 : Nat) y_4.1 ∧ Pl.MdB (16 : Nat) (3 : Nat) y_4.2.1 ∧ Pl.AtB (4 : Nat) y_4.2.2.1) ∧ (((Is (syms y) (syms y_4.1) ∧ True) ∧ (Is (mrows y_1.1) (mrows y_4.2.1) ∧ True) ∧ (y_2.1.1 = y_4.2.2.1.1 ∧ y_2.1.2.1.1 = y_4.2.2.1.2.1.1 ∧ Is (terms y_2.1.2.1.2) (terms y_4.2.2.1.2.1.2) ∧ y_2.1.2.2.1.1 = y_4.2.2.1.2.2.1.1 ∧ Is (terms y_2.1.2.2.1.2) (terms y_4.2.2.1.2.2.1.2) ∧ Is (terms y_2.1.2.2.2.1) (terms y_4.2.2.1.2.2.2.1) ∧ Is (ints y_2.1.2.2.2.2.1) (ints y_4.2.2.1.2.2.2.2.1) ∧ y_2.1.2.2.2.2.2.1 = y_4.2.2.1.2.2.2.2.2.1 ∧ y_2.1.2.2.2.2.2.2 = y_4.2.2.1.2.2.2.2.2.2 ∧ (y_3 == (0 : Int)) = y_4.2.2.2 ∧ True) ∧ True) ∧ True) ∧ True) ∧ ∃ y_4 : Pl.Sig × Pl.Mdl × Pl.Ltr,
 (Pl.SgB (5 : Nat) (2 : Nat) y_4.1 ∧ Pl.MdB (16 : Nat) (3 : Nat) y_4.2.1 ∧ Pl.AtB (4 : Nat) y_4.2.2.1) ∧ (((Is (syms y) (syms y_4.1) ∧ True) ∧ (Is (mrows y_1.1) (mrows y_4.2.1) ∧ True) ∧ (y_2.1.1 = y_4.2.2.1.1 ∧ y_2.1.2.1.1 = y_4.2.2.1.2.1.1 ∧ Is (terms y_2.1.2.1.2) (terms y_4.2.2.1.2.1.2) ∧ y_2.1.2.2.1.1 = y_4.2.2.1.2.2.1.1 ∧ Is (terms y_2.1.2.2.1.2) (terms y_4.2.2.1.2.2.1.2) ∧ Is (terms y_2.1.2.2.2.1) (terms y_4.2.2.1.2.2.2.1) ∧ Is (ints y_2.1.2.2.2.2.1) (ints y_4.2.2.1.2.2.2.2.1) ∧ y_2.1.2.2.2.2.2.1 = y_4.2.2.1.2.2.2.2.2.1 ∧ y_2.1.2.2.2.2.2.2 = y_4.2.2.1.2.2.2.2.2.2 ∧ (y_3 == (0 : Int)) = y_4.2.2.2 ∧ True) ∧ True) ∧ True) ∧ True) ∧ ((∃ x_2 : List Int × Int × Int,
 Rd (1099511627776 : Int) x_2.1 x_2.2.1 ∧ (((0 : Nat) = (0 : Nat) ∧ (2 : Int) = x_2.2.2 ∧ True) ∧ (Is (byts x.1) (byts x_2.1) ∧ y_2.2 = x_2.2.1 ∧ True) ∧ True) ∧ ∀ (y_3 : Int),
 ((1 : Int) ≤ x_2.2.2 → (0 : Int) ≤ y_3 ∧ y_3 < x_2.2.2) ∧ (x_2.2.2 < (1 : Int) → y_3 = (0 : Int)) →
 ∃ y_4 : Pl.Sig × Pl.Mdl × Pl.Ltr,
 (Pl.SgB (5 : Nat) (2 : Nat) y_4.1 ∧ Pl.MdB (16 : Nat) (3 : Nat) y_4.2.1 ∧ Pl.AtB (4 : Nat) y_4.2.2.1) ∧ (((Is (syms y) (syms y_4.1) ∧ True) ∧ (Is (mrows y_1.1) (mrows y_4.2.1) ∧ True) ∧ (y_2.1.1 = y_4.2.2.1.1 ∧ y_2.1.2.1.1 = y_4.2.2.1.2.1.1 ∧ Is (terms y_2.1.2.1.2) (terms y_4.2.2.1.2.1.2) ∧ y_2.1.2.2.1.1 = y_4.2.2.1.2.2.1.1 ∧ Is (terms y_2.1.2.2.1.2) (terms y_4.2.2.1.2.2.1.2) ∧ Is (terms y_2.1.2.2.2.1) (terms y_4.2.2.1.2.2.2.1) ∧ Is (ints y_2.1.2.2.2.2.1) (ints y_4.2.2.1.2.2.2.2.1) ∧ y_2.1.2.2.2.2.2.1 = y_4.2.2.1.2.2.2.2.2.1 ∧ y_2.1.2.2.2.2.2.2 = y_4.2.2.1.2.2.2.2.2.2 ∧ (y_3 == (0 : Int)) = y_4.2.2.2 ∧ True) ∧ True) ∧ True) ∧ True) ∧ ∃ x_2 : List Int × Int × Int,
 Rd (1099511627776 : Int) x_2.1 x_2.2.1 ∧ (((0 : Nat) = (0 : Nat) ∧ (2 : Int) = x_2.2.2 ∧ True) ∧ (Is (byts x.1) (byts x_2.1) ∧ y_2.2 = x_2.2.1 ∧ True) ∧ True) ∧ ∀ (y_3 : Int),
 ((1 : Int) ≤ x_2.2.2 → (0 : Int) ≤ y_3 ∧ y_3 < x_2.2.2) ∧ (x_2.2.2 < (1 : Int) → y_3 = (0 : Int)) →
 ∃ y_4 : Pl.Sig × Pl.Mdl × Pl.Ltr,
 (Pl.SgB (5 : Nat) (2 : Nat) y_4.1 ∧ Pl.MdB (16 : Nat) (3 : Nat) y_4.2.1 ∧ Pl.AtB (4 : Nat) y_4.2.2.1) ∧ (((Is (syms y) (syms y_4.1) ∧ True) ∧ (Is (mrows y_1.1) (mrows y_4.2.1) ∧ True) ∧ (y_2.1.1 = y_4.2.2.1.1 ∧ y_2.1.2.1.1 = y_4.2.2.1.2.1.1 ∧ Is (terms y_2.1.2.1.2) (terms y_4.2.2.1.2.1.2) ∧ y_2.1.2.2.1.1 = y_4.2.2.1.2.2.1.1 ∧ Is (terms y_2.1.2.2.1.2) (terms y_4.2.2.1.2.2.1.2) ∧ Is (terms y_2.1.2.2.2.1) (terms y_4.2.2.1.2.2.2.1) ∧ Is (ints y_2.1.2.2.2.2.1) (ints y_4.2.2.1.2.2.2.2.1) ∧ y_2.1.2.2.2.2.2.1 = y_4.2.2.1.2.2.2.2.2.1 ∧ y_2.1.2.2.2.2.2.2 = y_4.2.2.1.2.2.2.2.2.2 ∧ (y_3 == (0 : Int)) = y_4.2.2.2 ∧ True) ∧ True) ∧ True) ∧ True) ∧ ∃ x_2 : List Int × Int × Int,
 Rd (1099511627776 : Int) x_2.1 x_2.2.1 ∧ (((0 : Nat) = (0 : Nat) ∧ (2 : Int) = x_2.2.2 ∧ True) ∧ (Is (byts x.1) (byts x_2.1) ∧ y_2.2 = x_2.2.1 ∧ True) ∧ True) ∧ ∀ (y_3 : Int),
 ((1 : Int) ≤ x_2.2.2 → (0 : Int) ≤ y_3 ∧ y_3 < x_2.2.2) ∧ (x_2.2.2 < (1 : Int) → y_3 = (0 : Int)) →
 (∃ y_4 : Pl.Sig × Pl.Mdl × Pl.Ltr,
 (Pl.SgB (5 : Nat) (2 : Nat) y_4.1 ∧ Pl.MdB (16 : Nat) (3 : Nat) y_4.2.1 ∧ Pl.AtB (4 : Nat) y_4.2.2.1) ∧ (((Is (syms y) (syms y_4.1) ∧ True) ∧ (Is (mrows y_1.1) (mrows y_4.2.1) ∧ True) ∧ (y_2.1.1 = y_4.2.2.1.1 ∧ y_2.1.2.1.1 = y_4.2.2.1.2.1.1 ∧ Is (terms y_2.1.2.1.2) (terms y_4.2.2.1.2.1.2) ∧ y_2.1.2.2.1.1 = y_4.2.2.1.2.2.1.1 ∧ Is (terms y_2.1.2.2.1.2) (terms y_4.2.2.1.2.2.1.2) ∧ Is (terms y_2.1.2.2.2.1) (terms y_4.2.2.1.2.2.2.1) ∧ Is (ints y_2.1.2.2.2.2.1) (ints y_4.2.2.1.2.2.2.2.1) ∧ y_2.1.2.2.2.2.2.1 = y_4.2.2.1.2.2.2.2.2.1 ∧ y_2.1.2.2.2.2.2.2 = y_4.2.2.1.2.2.2.2.2.2 ∧ (y_3 == (0 : Int)) = y_4.2.2.2 ∧ True) ∧ True) ∧ True) ∧ True) ∧ ∃ y_4 : Pl.Sig × Pl.Mdl × Pl.Ltr,
 (Pl.SgB (5 : Nat) (2 : Nat) y_4.1 ∧ Pl.MdB (16 : Nat) (3 : Nat) y_4.2.1 ∧ Pl.AtB (4 : Nat) y_4.2.2.1) ∧ (((Is (syms y) (syms y_4.1) ∧ True) ∧ (Is (mrows y_1.1) (mrows y_4.2.1) ∧ True) ∧ (y_2.1.1 = y_4.2.2.1.1 ∧ y_2.1.2.1.1 = y_4.2.2.1.2.1.1 ∧ Is (terms y_2.1.2.1.2) (terms y_4.2.2.1.2.1.2) ∧ y_2.1.2.2.1.1 = y_4.2.2.1.2.2.1.1 ∧ Is (terms y_2.1.2.2.1.2) (terms y_4.2.2.1.2.2.1.2) ∧ Is (terms y_2.1.2.2.2.1) (terms y_4.2.2.1.2.2.2.1) ∧ Is (ints y_2.1.2.2.2.2.1) (ints y_4.2.2.1.2.2.2.2.1) ∧ y_2.1.2.2.2.2.2.1 = y_4.2.2.1.2.2.2.2.2.1 ∧ y_2.1.2.2.2.2.2.2 = y_4.2.2.1.2.2.2.2.2.2 ∧ (y_3 == (0 : Int)) = y_4.2.2.2 ∧ True) ∧ True) ∧ True) ∧ True) = Goal Tryz.prog [K_l16Open, K_l4Sig, K_l7Some, K_l6Some, K_pick] ([]) K_DrawModelLit.1 K_DrawModelLit.2 (b) := by kernel_rfl

theorem vc_yModelTurn (b : List Int) : (condP (decide ((↑b.length : Int) > (1048576 : Int))) (true = true)
 (∃ x : List Int,
 (Sz x ∧ Byt x) ∧ ((Is (byts b) (byts x) ∧ True) ∧ True) ∧ ∀ (y : Pl.Sig × Pl.Mdl × Pl.Ltr),
 Pl.SgB (5 : Nat) (2 : Nat) y.1 ∧ Pl.MdB (16 : Nat) (3 : Nat) y.2.1 ∧ Pl.AtB (4 : Nat) y.2.2.1 →
 ∃ x : Pl.Sig × Pl.Mdl × Pl.Ltr,
 ((Is (syms y.1) (syms x.1) ∧ True) ∧ (Is (mrows y.2.1) (mrows x.2.1) ∧ True) ∧ (y.2.2.1.1 = x.2.2.1.1 ∧ y.2.2.1.2.1.1 = x.2.2.1.2.1.1 ∧ Is (terms y.2.2.1.2.1.2) (terms x.2.2.1.2.1.2) ∧ y.2.2.1.2.2.1.1 = x.2.2.1.2.2.1.1 ∧ Is (terms y.2.2.1.2.2.1.2) (terms x.2.2.1.2.2.1.2) ∧ Is (terms y.2.2.1.2.2.2.1) (terms x.2.2.1.2.2.2.1) ∧ Is (ints y.2.2.1.2.2.2.2.1) (ints x.2.2.1.2.2.2.2.1) ∧ y.2.2.1.2.2.2.2.2.1 = x.2.2.1.2.2.2.2.2.1 ∧ y.2.2.1.2.2.2.2.2.2 = x.2.2.1.2.2.2.2.2.2 ∧ y.2.2.2 = x.2.2.2 ∧ True) ∧ True) ∧ (SmG x.1 ∧ SmM x.2.1 ∧ SmA x.2.2.1) ∧ ∃ x_1 : Pl.Sig × Pl.Mdl × Pl.Ltr,
 ((Is (syms y.1) (syms x_1.1) ∧ True) ∧ (Is (mrows y.2.1) (mrows x_1.2.1) ∧ True) ∧ (y.2.2.1.1 = x_1.2.2.1.1 ∧ y.2.2.1.2.1.1 = x_1.2.2.1.2.1.1 ∧ Is (terms y.2.2.1.2.1.2) (terms x_1.2.2.1.2.1.2) ∧ y.2.2.1.2.2.1.1 = x_1.2.2.1.2.2.1.1 ∧ Is (terms y.2.2.1.2.2.1.2) (terms x_1.2.2.1.2.2.1.2) ∧ Is (terms y.2.2.1.2.2.2.1) (terms x_1.2.2.1.2.2.2.1) ∧ Is (ints y.2.2.1.2.2.2.2.1) (ints x_1.2.2.1.2.2.2.2.1) ∧ y.2.2.1.2.2.2.2.2.1 = x_1.2.2.1.2.2.2.2.2.1 ∧ y.2.2.1.2.2.2.2.2.2 = x_1.2.2.1.2.2.2.2.2.2 ∧ y.2.2.2 = x_1.2.2.2 ∧ True) ∧ True) ∧ (SmG x_1.1 ∧ SmM x_1.2.1 ∧ SmA x_1.2.2.1) ∧ condP (!(Pl.modelLit x.1 x.2.1 x.2.2).1 == (Pl.modelLit x_1.1 x_1.2.1 x_1.2.2).1)
 (condP ((Pl.modelLit x.1 x.2.1 x.2.2).1 == (Pl.modelLit x_1.1 x_1.2.1 x_1.2.2).1)
 (((Pl.modelLit x.1 x.2.1 x.2.2).2 == (Pl.modelLit x_1.1 x_1.2.1 x_1.2.2).2) = true) (false = true))
 (condP (!(Pl.modelLit x.1 x.2.1 x.2.2).2 == (Pl.modelLit x_1.1 x_1.2.1 x_1.2.2).2)
 (condP ((Pl.modelLit x.1 x.2.1 x.2.2).1 == (Pl.modelLit x_1.1 x_1.2.1 x_1.2.2).1)
 (((Pl.modelLit x.1 x.2.1 x.2.2).2 == (Pl.modelLit x_1.1 x_1.2.1 x_1.2.2).2) = true) (false = true))
 (condP (!(Pl.modelLit x.1 x.2.1 x.2.2).2)
 (condP ((Pl.modelLit x.1 x.2.1 x.2.2).1 == (Pl.modelLit x_1.1 x_1.2.1 x_1.2.2).1)
 (((Pl.modelLit x.1 x.2.1 x.2.2).2 == (Pl.modelLit x_1.1 x_1.2.1 x_1.2.2).2) = true) (false = true))
 (condP (y.2.2.1.1 != (1 : Int))
 (condP ((Pl.modelLit x.1 x.2.1 x.2.2).1 == (Pl.modelLit x_1.1 x_1.2.1 x_1.2.2).1)
 (((Pl.modelLit x.1 x.2.1 x.2.2).2 == (Pl.modelLit x_1.1 x_1.2.1 x_1.2.2).2) = true) (false = true))
 (∃ x_2 : Pl.Sig × Pl.Mdl × Pl.Ltr,
 ((Is (syms y.1) (syms x_2.1) ∧ True) ∧ (Is (mrows y.2.1) (mrows x_2.2.1) ∧ True) ∧ ((1 : Int) = x_2.2.2.1.1 ∧ y.2.2.1.2.2.1.1 = x_2.2.2.1.2.1.1 ∧ Is (terms y.2.2.1.2.2.1.2) (terms x_2.2.2.1.2.1.2) ∧ y.2.2.1.2.1.1 = x_2.2.2.1.2.2.1.1 ∧ Is (terms y.2.2.1.2.1.2) (terms x_2.2.2.1.2.2.1.2) ∧ Is (AV.lit (0 : Nat) (1 : Nat) fun (x x_3 : Nat) => AV.any) (terms x_2.2.2.1.2.2.2.1) ∧ Is (AV.lit (0 : Nat) (1 : Nat) fun (x x_3 : Nat) => AV.any) (ints x_2.2.2.1.2.2.2.2.1) ∧ (0 : Int) = x_2.2.2.1.2.2.2.2.2.1 ∧ false = x_2.2.2.1.2.2.2.2.2.2 ∧ y.2.2.2 = x_2.2.2.2 ∧ True) ∧ True) ∧ (SmG x_2.1 ∧ SmM x_2.2.1 ∧ SmA x_2.2.2.1) ∧ condP (Pl.modelLit x_2.1 x_2.2.1 x_2.2.2).2
 (((Pl.modelLit x_2.1 x_2.2.1 x_2.2.2).1 == (Pl.modelLit x.1 x.2.1 x.2.2).1) = true) (false = true))))))) = Goal Tryz.prog [K_DrawModelLit, K_iModelLit, K_sModelLit] ([]) K_yModelTurn.1 K_yModelTurn.2 (b) := by kernel_rfl

end Cg
