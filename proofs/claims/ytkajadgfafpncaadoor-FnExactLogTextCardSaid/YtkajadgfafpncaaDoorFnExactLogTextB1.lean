/-
  What the law leans on, part 1. No condition.
-/
import Derived.Test.YtkajadgfafpncaaDoorTool
import Derived.Lib.ItoaNum
import Derived.Test.YtkajadgfafpncaaDoorProg
import Derived.Shelf.Strconv.Itoa3
import Derived.Shelf.Strings.OnBuilder
import Derived.WalkKit
import Derived.BigCall
import Derived.Lib.LaidTab
import Derived.LaidSub
import Derived.LaidMore
import Derived.MakeChecks
import Derived.Test.YtkajadgfafpncaaDoorRows
/-
  The numbers of the functions, by name. No condition.
-/
namespace Nm
def laws_FnExactAtomText : Nat := 3
def laws_FnExactLitText : Nat := 4
def laws_FnAtomSame : Nat := 5
def laws_FnExactLogText : Nat := 6
def laws_FnExactSigText : Nat := 7
def laws_FnExactModelText : Nat := 8
def laws_szAtom : Nat := 9
def spec_AtomText : Nat := 10
def laws_toAtom : Nat := 11
def impl_AtomText : Nat := 12
def laws_eqAtom : Nat := 13
def laws_szLit : Nat := 14
def spec_LitText : Nat := 15
def laws_toLit : Nat := 16
def impl_LitText : Nat := 17
def laws_eqLit : Nat := 18
def spec_DrawAtomSame : Nat := 19
def impl_AtomSame : Nat := 20
def spec_AtomSame : Nat := 21
def laws_szIntSS : Nat := 22
def spec_LogText : Nat := 23
def laws_toIntSS : Nat := 24
def impl_LogText : Nat := 25
def laws_eqIntSS : Nat := 26
def laws_szSig : Nat := 27
def spec_SigText : Nat := 28
def laws_toSig : Nat := 29
def impl_SigText : Nat := 30
def laws_eqSig : Nat := 31
def laws_szModel : Nat := 32
def spec_ModelText : Nat := 33
def laws_toModel : Nat := 34
def impl_ModelText : Nat := 35
def laws_eqModel : Nat := 36
def laws_szTerm : Nat := 37
def laws_szTermS : Nat := 38
def laws_szIntS : Nat := 39
def spec_l6Right : Nat := 40
def spec_l4Text : Nat := 41
def spec_l16Dec : Nat := 42
def laws_toTerm : Nat := 43
def laws_toTermS : Nat := 44
def laws_toIntS : Nat := 45
def impl_Atom_ok : Nat := 46
def impl_atomText : Nat := 47
def laws_eqTerm : Nat := 48
def laws_eqTermS : Nat := 49
def laws_eqIntS : Nat := 50
def impl_litText : Nat := 51
def spec_l16Open : Nat := 52
def spec_l4Sig : Nat := 53
def spec_l6Some : Nat := 54
def spec_l6Copy : Nat := 55
def spec_l16Rd_pick : Nat := 56
def impl_TermSame : Nat := 57
def slices_EqualFunc_Simpl_Term_Simpl_Term_impl_Term_impl_Term : Nat := 58
def slices_Equal_Sint_int : Nat := 59
def spec_TermSame : Nat := 60
def spec_l11Right : Nat := 61
def impl_isLog : Nat := 62
def impl_logText : Nat := 63
def laws_szSymS : Nat := 64
def spec_SigOk : Nat := 65
def spec_l4Line : Nat := 66
def laws_toSymS : Nat := 67
def impl_SigOk : Nat := 68
def strings_Builder_WriteString : Nat := 69
def impl_Sym_text : Nat := 70
def strings_Builder_String : Nat := 71
def laws_eqSymS : Nat := 72
def laws_szRowS : Nat := 73
def spec_l7Right : Nat := 74
def spec_RatText : Nat := 75
def laws_toRowS : Nat := 76
def impl_Model_ok : Nat := 77
def impl_modelText : Nat := 78
def laws_eqRowS : Nat := 79
def spec_l6Sum : Nat := 80
def spec_l4Right : Nat := 81
def impl_isTerm : Nat := 82
def impl_isNone : Nat := 83
def impl_within : Nat := 84
def impl_termText : Nat := 85
def strconv_Itoa : Nat := 86
def impl_sign : Nat := 87
def spec_l4Base : Nat := 88
def spec_l16Rd_num : Nat := 89
def spec_l6Any : Nat := 90
def spec_l4Some : Nat := 91
def spec_l4Any : Nat := 92
def spec_l4Copy : Nat := 93
def spec_ClauseOk : Nat := 94
def slices_ContainsFunc_SSint_Sint : Nat := 95
def impl_isLog_1 : Nat := 96
def impl_ClauseOk : Nat := 97
def impl_spaced : Nat := 98
def laws_szSym : Nat := 99
def spec_NameOk : Nat := 100
def spec_l4Sort : Nat := 101
def laws_toSym : Nat := 102
def impl_Sym_ok : Nat := 103
def strings_Builder_copyCheck : Nat := 104
def laws_eqSym : Nat := 105
def laws_szRow : Nat := 106
def spec_l7Row : Nat := 107
def spec_l7Less : Nat := 108
def spec_RatOk : Nat := 109
def laws_toRow : Nat := 110
def impl_Row_ok : Nat := 111
def impl_compareRows : Nat := 112
def impl_Row_text : Nat := 113
def laws_eqRow : Nat := 114
def spec_l6None : Nat := 115
def spec_l4Shape : Nat := 116
def spec_l4Many : Nat := 117
def impl_termSize : Nat := 118
def strings_Join : Nat := 119
def internal_strconv_Itoa : Nat := 120
def spec_l6Put : Nat := 121
def spec_l16Rd_of : Nat := 122
def spec_l10Abs : Nat := 123
def slices_IndexFunc_SSint_Sint : Nat := 124
def impl_isMark : Nat := 125
def impl_variable : Nat := 126
def impl_NameOk : Nat := 127
def impl_isSort : Nat := 128
def slices_ContainsFunc_Sint_int : Nat := 129
def impl_Sym_ok_1 : Nat := 130
def internal_abi_NoEscape : Nat := 131
def laws_szRatS : Nat := 132
def spec_RatLess : Nat := 133
def spec_l1Abs : Nat := 134
def spec_l1Gcd : Nat := 135
def laws_toRatS : Nat := 136
def laws_toRat : Nat := 137
def impl_RatOk : Nat := 138
def slices_ContainsFunc_Simpl_Rat_impl_Rat : Nat := 139
def impl_Row_ok_1 : Nat := 140
def cmp_Or_int : Nat := 141
def cmp_Compare_string : Nat := 142
def cmp_Compare_int : Nat := 143
def slices_CompareFunc_Simpl_Rat_Simpl_Rat_impl_Rat_impl_Rat : Nat := 144
def impl_compareRats : Nat := 145
def impl_ratText : Nat := 146
def laws_eqRatS : Nat := 147
def laws_eqRat : Nat := 148
def strings_Builder_Grow : Nat := 149
def internal_strconv_FormatInt : Nat := 150
def slices_IndexFunc_Sint_int : Nat := 151
def impl_gcd : Nat := 152
def slices_IndexFunc_Simpl_Rat_impl_Rat : Nat := 153
def cmp_isNaN_string : Nat := 154
def cmp_isNaN_int : Nat := 155
def impl_RatLess : Nat := 156
def strings_Builder_grow : Nat := 157
def internal_strconv_small : Nat := 158
def internal_strconv_numDigits : Nat := 159
def internal_strconv_formatBase10 : Nat := 160
def internal_strconv_formatBits : Nat := 161
def internal_bytealg_MakeNoZero : Nat := 162
def internal_strconv_log10Pow2 : Nat := 163
def math_bits_Len64 : Nat := 164
def internal_strconv_bool2_int : Nat := 165
def internal_strconv_isPowerOfTwo : Nat := 166
def math_bits_TrailingZeros : Nat := 167
def math_bits_TrailingZeros32 : Nat := 168
def math_bits_TrailingZeros64 : Nat := 169
def internal_abi_Type_Align : Nat := 182
def internal_runtime_maps_unhashableTypeError_Error : Nat := 183
def internal_runtime_maps_unhashableTypeError_RuntimeError : Nat := 184
def impl_Term_own : Nat := 185
def impl_Sig_own : Nat := 186
def spec_l16Rd_word : Nat := 187
def strings_Builder_Reset : Nat := 188
def internal_abi_Kind_String : Nat := 189
end Nm

/-
  Trees: a thing and the trees below it, and how they lie in cells. No condition.
-/
set_option linter.unusedVariables false
set_option linter.unusedSimpArgs false
namespace Pl
inductive Tree (α : Type) where
  | mk (v : α) (ks : List (Tree α))
def Tree.val {α : Type} : Tree α → α
  | .mk v _ => v
def Tree.kids {α : Type} : Tree α → List (Tree α)
  | .mk _ ks => ks
@[simp] theorem Tree.eta {α : Type} (t : Tree α) : Tree.mk t.val t.kids = t := by cases t; rfl
@[simp] theorem Tree.val_mk {α : Type} (v : α) (ks : List (Tree α)) : (Tree.mk v ks).val = v := rfl
@[simp] theorem Tree.kids_mk {α : Type} (v : α) (ks : List (Tree α)) : (Tree.mk v ks).kids = ks := rfl
theorem Tree.ext {α : Type} {t u : Tree α} (h1 : t.val = u.val) (h2 : t.kids = u.kids) : t = u := by cases t; cases u; simp_all
noncomputable instance {α : Type} : DecidableEq (Tree α) := fun a b => Classical.propDecidable (a = b)
mutual
/-- How many there are in a tree, and in trees. -/
def Tree.many {α : Type} : Tree α → Nat
  | .mk _ ks => 1 + manyL ks
def manyL {α : Type} : List (Tree α) → Nat
  | [] => 0
  | t :: ts => t.many + manyL ts
end
theorem Tree.many_eq {α : Type} (t : Tree α) : t.many = 1 + manyL t.kids := by
  cases t with
  | mk v ks => simp only [Tree.many, Tree.kids]
theorem many_mem {α : Type} {t : Tree α} : ∀ {l : List (Tree α)}, t ∈ l → t.many ≤ manyL l
  | u :: r, h => by
    unfold manyL
    cases List.mem_cons.1 h with
    | inl e => subst e; omega
    | inr e => have := many_mem e; omega
theorem Tree.many_kid {α : Type} {t u : Tree α} (h : u ∈ t.kids) : u.many < t.many := by
  have := many_mem h
  rw [t.many_eq]; omega
theorem Tree.many_pos {α : Type} (t : Tree α) : 0 < t.many := by rw [t.many_eq]; omega
end Pl
namespace Cg
open Go Pl
mutual
def subTr {α : Type} (k : Nat) (e : α → Nat → AV) : Tree α → Nat → Nat → AV
  | .mk _ ks => rowsTr k e ks
def rowsTr {α : Type} (k : Nat) (e : α → Nat → AV) : List (Tree α) → Nat → Nat → AV
  | [] => fun _ _ => .any
  | t :: ts => fun i j => match i with
    | 0 => bif Nat.blt j k then e t.val j else .sl t.kids.length (k + 1) (subTr k e t)
    | i + 1 => rowsTr k e ts i j
end
/-- A tree's cells: those of its thing, and the trees below. -/
def eTr {α : Type} (k : Nat) (e : α → Nat → AV) (t : Tree α) (j : Nat) : AV := bif Nat.blt j k then e t.val j else .sl t.kids.length (k + 1) (subTr k e t)
section
variable {α : Type} {k : Nat} {e : α → Nat → AV}
theorem rowsTr_get (d : Tree α) : ∀ (l : List (Tree α)) (i : Nat), i < l.length → ∀ j, rowsTr k e l i j = eTr k e (l.getD i d) j
  | [], i, h, j => by cases h
  | t :: ts, 0, h, j => by simp only [rowsTr, eTr]; rfl
  | t :: ts, i + 1, h, j => by
    have := rowsTr_get d ts i (by simpa using h) j
    simp only [rowsTr, this, List.getD_cons_succ]
theorem subTr_get (d : Tree α) (t : Tree α) (i : Nat) (h : i < t.kids.length) (j : Nat) : subTr k e t i j = eTr k e (t.kids.getD i d) j := by
  cases t with
  | mk v ks => simp only [subTr]; exact rowsTr_get d ks i h j
theorem Is_sl_iff2 {β : Type} {q : Nat} {f : β → Nat → AV} {d : β} (hq : 0 < q) {l m : List β} (he : ∀ x ∈ l, ∀ y, (∀ j, j < q → Is (f x j) (f y j)) ↔ x = y) {c c' : Nat → Nat → AV} (hc : ∀ i, i < l.length → ∀ j, j < q → c i j = f (l.getD i d) j) (hc' : ∀ i, i < m.length → ∀ j, j < q → c' i j = f (m.getD i d) j) :
    Is (.sl l.length q c) (.sl m.length q c') ↔ l = m := by
  constructor
  · intro h
    rw [Is] at h
    obtain ⟨h1, h2⟩ := h
    refine list_eq_getD d h1 fun i hi => ?_
    rcases h2 with h2 | ⟨_, h2⟩
    · omega
    · refine (he _ (by simp [hi]) _).1 fun j hj => ?_
      have := h2 i hi j hj
      rw [hc i hi j hj, hc' i (by omega) j hj] at this
      exact this
  · rintro rfl
    rw [Is]
    exact ⟨rfl, .inr ⟨rfl, fun i hi j hj => by rw [hc i hi j hj, hc' i hi j hj]; exact (he _ (by simp [hi]) _).2 rfl j hj⟩⟩
/-- The same cells, said in another way. -/
theorem Is_sl_cell {n q : Nat} {c c' : Nat → Nat → AV} {a : AV} (h : ∀ i, i < n → ∀ j, j < q → c i j = c' i j) (ha : Is a (.sl n q c)) : Is a (.sl n q c') := by
  cases a with
  | sl n1 e1 c1 =>
    rw [Is] at ha ⊢
    obtain ⟨rfl, h2⟩ := ha
    refine ⟨rfl, h2.imp id fun h2 => ?_⟩
    obtain ⟨rfl, h3⟩ := h2
    exact ⟨rfl, fun i hi j hj => by rw [← h i hi j hj]; exact h3 i hi j hj⟩
  | lit n1 e1 c1 =>
    rw [Is] at ha ⊢
    obtain ⟨rfl, h2⟩ := ha
    refine ⟨rfl, h2.imp id fun h2 => ?_⟩
    obtain ⟨rfl, h3⟩ := h2
    exact ⟨rfl, fun i hi j hj => by rw [← h i hi j hj]; exact h3 i hi j hj⟩
  | hdr x1 n1 e1 c1 =>
    rw [Is] at ha ⊢
    obtain ⟨rfl, h2⟩ := ha
    refine ⟨rfl, h2.imp id fun h2 => ?_⟩
    obtain ⟨rfl, h3⟩ := h2
    exact ⟨rfl, fun i hi j hj => by rw [← h i hi j hj]; exact h3 i hi j hj⟩
  | _ => simp [Is] at ha
theorem eTr_lt {t : Tree α} {j : Nat} (h : j < k) : eTr k e t j = e t.val j := by unfold eTr; rw [blt_true h]; rfl
theorem eTr_kids {t : Tree α} : eTr k e t k = .sl t.kids.length (k + 1) (subTr k e t) := by unfold eTr; rw [blt_false (Nat.lt_irrefl k)]; rfl
theorem EncN.tr (he : EncN k e) : EncN (k + 1) (eTr k e) := fun x y => by
  have main : ∀ (n : Nat) (x y : Tree α), x.many ≤ n → ((∀ j, j < k + 1 → Is (eTr k e x j) (eTr k e y j)) ↔ x = y) := by
    intro n
    induction n with
    | zero => intro x y h; have := x.many_pos; omega
    | succ n ih =>
      intro x y hn
      have kids : ∀ z ∈ x.kids, ∀ w, (∀ j, j < k + 1 → Is (eTr k e z j) (eTr k e w j)) ↔ z = w := fun z hz w => ih z w (by have := Tree.many_kid hz; omega)
      have key : Is (.sl x.kids.length (k + 1) (subTr k e x)) (.sl y.kids.length (k + 1) (subTr k e y)) ↔ x.kids = y.kids :=
        Is_sl_iff2 (d := x) (Nat.succ_pos k) kids (fun i hi j _ => subTr_get x x i hi j) (fun i hi j _ => subTr_get x y i hi j)
      constructor
      · intro h
        refine Tree.ext ((he _ _).1 fun j hj => ?_) (key.1 ?_)
        · have := h j (by omega)
          rw [eTr_lt hj, eTr_lt hj] at this
          exact this
        · have := h k (by omega)
          rw [eTr_kids, eTr_kids] at this
          exact this
      · rintro rfl j hj
        by_cases hjk : j < k
        · rw [eTr_lt hjk]; exact (he _ _).2 rfl j hjk
        · have : j = k := by omega
          subst this
          rw [eTr_kids]
          exact key.2 rfl
  exact main x.many x y (Nat.le_refl _)
end
end Cg

/-
  Words and terms: how they lie in cells. No condition.
-/
set_option linter.unusedVariables false
set_option linter.unusedSimpArgs false
namespace Pl
abbrev Tm := Tree ByteArray
abbrev TP := ByteArray × List Tm
abbrev Sym := ByteArray × List Int × Int
def dT : Tm := .mk ByteArray.empty []
def dY : Sym := (ByteArray.empty, [], 0)
end Pl
namespace Cg
open Go Pl
def subT (t : Tm) : Nat → Nat → AV := subTr 1 eS t
def eT (t : Tm) (j : Nat) : AV := match j with
  | 0 => st t.val
  | _ => .sl t.kids.length 2 (subT t)
theorem eT_tr (t : Tm) : ∀ j, j < 2 → eT t j = eTr 1 eS t j
  | 0, _ => (eTr_lt (k := 1) (e := eS) (t := t) (j := 0) (by decide)).symm
  | 1, _ => (eTr_kids (k := 1) (e := eS) (t := t)).symm
theorem EncN.eT : EncN 2 eT := fun x y => by
  rw [← EncN.tr EncN.eS x y]
  exact ⟨fun h j hj => by rw [← eT_tr x j hj, ← eT_tr y j hj]; exact h j hj, fun h j hj => by rw [eT_tr x j hj, eT_tr y j hj]; exact h j hj⟩
/-- The terms below a term. -/
def kidsT (t : Tm) : AV := .sl t.kids.length 2 (subT t)

def cT (l : List Tm) : Nat → Nat → AV := fun i j => eT (l.getD i dT) j
def terms (l : List Tm) : AV := .sl l.length 2 fun i j => eT (l.getD i dT) j
def arT (l : List Tm) : AObj := .arr l.length 2 fun i j => eT (l.getD i dT) j
theorem Enc.terms : Enc terms := Enc.sln (by decide) EncN.eT dT
@[simp] theorem Is_terms {x y : List Tm} : Is (terms x) (terms y) ↔ x = y := Enc.terms x y
@[simp] theorem IsO_terms {x y : List Tm} : IsO (arT x) (arT y) ↔ y = [] ∨ x = y := IsO_arn EncN.eT
@[simp] theorem IsO_terms0 {n : Nat} {c : Nat → Nat → AV} : IsO (.arr n 2 c) (arT []) := IsO_nil
@[simp] theorem terms_nil {q : Nat} {c : Nat → Nat → AV} {m : List Tm} : Is (.lit 0 q c) (terms m) ↔ m = [] := nil_sln
@[simp] theorem terms_nilA {m : List Tm} : Is nilA (terms m) ↔ m = [] := nil_sln
@[simp] theorem terms_join {l m : List Tm} : IsO (.arr (l.length + m.length) 2 (joinC l.length (cT l) (cT m))) (arT (l ++ m)) := IsO_join EncN.eT (IsR_cel EncN.eT)
@[simp] theorem terms_join0 {m : List Tm} {c : Nat → Nat → AV} : IsO (.arr (0 + m.length) 2 (joinC 0 c (cT m))) (arT m) := IsO_join0 EncN.eT (IsR_cel EncN.eT)
@[simp] theorem terms_join0' {m : List Tm} {c : Nat → Nat → AV} : IsO (.arr m.length 2 (joinC 0 c (cT m))) (arT m) := IsO_join0 EncN.eT (IsR_cel EncN.eT)
@[simp] theorem Is_kidsT {t : Tm} {m : List Tm} : Is (kidsT t) (terms m) ↔ t.kids = m :=
  Is_sl_iff2 (d := dT) (by decide) (fun x _ y => EncN.eT x y) (fun i hi j hj => by rw [eT_tr _ j hj]; exact subTr_get dT t i hi j) (fun i _ j _ => rfl)
@[simp] theorem Is_terms_kidsT {t : Tm} {m : List Tm} : Is (terms m) (kidsT t) ↔ m = t.kids :=
  Is_sl_iff2 (d := dT) (by decide) (fun x _ y => EncN.eT x y) (fun i _ j _ => rfl) (fun i hi j hj => by rw [eT_tr _ j hj]; exact subTr_get dT t i hi j)
@[simp] theorem Is_kidsT2 {t u : Tm} : Is (kidsT t) (kidsT u) ↔ t.kids = u.kids :=
  Is_sl_iff2 (d := dT) (by decide) (fun x _ y => EncN.eT x y) (fun i hi j hj => by rw [eT_tr _ j hj]; exact subTr_get dT t i hi j) (fun i hi j hj => by rw [eT_tr _ j hj]; exact subTr_get dT u i hi j)
theorem Is_rowT {v : ByteArray} {a : AV} {ks : List Tm} (ha : Is a (terms ks)) : ∀ j, j < 2 → Is ([st v, a].getD j .any) (eT (.mk v ks) j) := fun j hj => by
  match j, hj with
  | 0, _ => exact (Enc.st v v).2 rfl
  | 1, _ =>
    exact Is_sl_cell (fun i hi j hj => by rw [eT_tr _ j hj]; exact (subTr_get dT (Tree.mk v ks) i hi j).symm) ha
def eY (x : Sym) (j : Nat) : AV := match j with
  | 0 => st x.1
  | 1 => ints x.2.1
  | _ => i64 x.2.2
theorem EncN.eY : EncN 3 eY := fun x y => by
  constructor
  · intro h
    have h0 : Is (st x.1) (st y.1) := h 0 (by decide)
    have h1 : Is (ints x.2.1) (ints y.2.1) := h 1 (by decide)
    have h2 : Is (i64 x.2.2) (i64 y.2.2) := h 2 (by decide)
    simp only [Is_i64, Is_u8, Is_bl, Is_st, Is_ints, Is_bools, Is_strs, Is_intss] at h0 h1 h2
    grind
  · rintro rfl j hj
    match j, hj with
    | 0, _ => show Is (st x.1) (st x.1); simp
    | 1, _ => show Is (ints x.2.1) (ints x.2.1); simp
    | 2, _ => show Is (i64 x.2.2) (i64 x.2.2); simp
def cY (l : List Sym) : Nat → Nat → AV := fun i j => eY (l.getD i dY) j
def syms (l : List Sym) : AV := .sl l.length 3 fun i j => eY (l.getD i dY) j
def arY (l : List Sym) : AObj := .arr l.length 3 fun i j => eY (l.getD i dY) j
theorem Enc.syms : Enc syms := Enc.sln (by decide) EncN.eY dY
@[simp] theorem Is_syms {x y : List Sym} : Is (syms x) (syms y) ↔ x = y := Enc.syms x y
@[simp] theorem IsO_syms {x y : List Sym} : IsO (arY x) (arY y) ↔ y = [] ∨ x = y := IsO_arn EncN.eY
@[simp] theorem IsO_syms0 {n : Nat} {c : Nat → Nat → AV} : IsO (.arr n 3 c) (arY []) := IsO_nil
@[simp] theorem syms_nil {q : Nat} {c : Nat → Nat → AV} {m : List Sym} : Is (.lit 0 q c) (syms m) ↔ m = [] := nil_sln
@[simp] theorem syms_nilA {m : List Sym} : Is nilA (syms m) ↔ m = [] := nil_sln
@[simp] theorem syms_join {l m : List Sym} : IsO (.arr (l.length + m.length) 3 (joinC l.length (cY l) (cY m))) (arY (l ++ m)) := IsO_join EncN.eY (IsR_cel EncN.eY)
@[simp] theorem syms_join0 {m : List Sym} {c : Nat → Nat → AV} : IsO (.arr (0 + m.length) 3 (joinC 0 c (cY m))) (arY m) := IsO_join0 EncN.eY (IsR_cel EncN.eY)
@[simp] theorem syms_join0' {m : List Sym} {c : Nat → Nat → AV} : IsO (.arr m.length 3 (joinC 0 c (cY m))) (arY m) := IsO_join0 EncN.eY (IsR_cel EncN.eY)
theorem Is_rowY {a : ByteArray} {b : AV} {l : List Int} {c : Int} (hb : Is b (ints l)) : ∀ j, j < 3 → Is ([st a, b, i64 c].getD j .any) (eY (a, l, c) j) := fun j hj => by
  match j, hj with
  | 0, _ => exact (Enc.st a a).2 rfl
  | 1, _ => exact hb
  | 2, _ => exact (Enc.i64 c c).2 rfl
@[simp] theorem syms_set {l : List Sym} {i : Nat} {a : ByteArray} {b : List Int} {c : Int} : IsO (.arr l.length 3 (storeC (cY l) i 0 [st a, ints b, i64 c])) (arY (l.set i (a, b, c))) := IsO_set EncN.eY rfl (Is_rowY ((Enc.ints b b).2 rfl))
@[simp] theorem syms_make {n : Nat} : IsO (.arr n 3 (fun _ j => [st ByteArray.empty, nilA, i64 0].getD j .any)) (arY (List.replicate n dY)) := IsO_make EncN.eY (Is_rowY (ints_nilA.2 rfl))
@[simp] theorem terms_set {l : List Tm} {i : Nat} {a : ByteArray} {b : List Tm} : IsO (.arr l.length 2 (storeC (cT l) i 0 [st a, terms b])) (arT (l.set i (.mk a b))) := IsO_set EncN.eT rfl (Is_rowT ((Enc.terms b b).2 rfl))
@[simp] theorem terms_make {n : Nat} : IsO (.arr n 2 (fun _ j => [st ByteArray.empty, nilA].getD j .any)) (arT (List.replicate n dT)) := IsO_make EncN.eT (Is_rowT (terms_nilA.2 rfl))
theorem terms_row (a : ByteArray) (b : List Tm) : IsR 2 eT dT (rowsCell [[st a, terms b]]) [.mk a b] := IsR_row EncN.eT (Is_rowT ((Enc.terms b b).2 rfl))
@[simp] theorem terms_push {l : List Tm} {a : ByteArray} {b : List Tm} : IsO (.arr (l.length + 1) 2 (joinC l.length (cT l) (rowsCell [[st a, terms b]]))) (arT (l ++ [.mk a b])) := IsO_join EncN.eT (terms_row a b)
theorem syms_row (a : ByteArray) (b : List Int) (c : Int) : IsR 3 eY dY (rowsCell [[st a, ints b, i64 c]]) [(a, b, c)] := IsR_row EncN.eY (Is_rowY ((Enc.ints b b).2 rfl))
@[simp] theorem syms_push {l : List Sym} {a : ByteArray} {b : List Int} {c : Int} : IsO (.arr (l.length + 1) 3 (joinC l.length (cY l) (rowsCell [[st a, ints b, i64 c]]))) (arY (l ++ [(a, b, c)])) := IsO_join EncN.eY (syms_row a b c)
end Cg

/-
  Plain functions, and what is known of the codes' callees and loops: clauses. No condition.
-/
namespace Pl
open Go
def wneg (x : Int) : Int := IntKind.i64.wrap (0 - x)
def absW (x : Int) : Int := if x < -60 then 61 else if x > 60 then 61 else if x < 0 then wneg x else x
def withinI (n lo hi : Int) : Bool := decide (lo ≤ n) && decide (n ≤ hi)
def isMark (l many : Int) : Bool := decide (l ≠ 0) && withinI l (wneg many) many
def varI (x : Int) : Int := if wneg x > x then wneg x else x
def specLoop (many last : Int) : List Int → Bool
  | [] => decide (many ≥ 0) && decide (many ≤ 60)
  | x :: xs => bif decide (absW x ≤ last) || decide (absW x > many) then false else specLoop many (absW x) xs
def specClause (l : List Int) (many : Int) : Bool := specLoop many 0 l
def implLoop (many : Int) : Option Int → List Int → Bool
  | _, [] => true
  | none, x :: xs => bif !isMark x many then false else implLoop many (some x) xs
  | some p, x :: xs => bif !isMark x many || decide (varI p ≥ varI x) then false else implLoop many (some x) xs
def implClause (l : List Int) (many : Int) : Bool := bif withinI many 0 60 then implLoop many none l else false
def prev (l : List Int) (k : Nat) : Option Int := if k = 0 then none else some (l.getD (k - 1) 0)
end Pl
namespace Cg
open Go
abbrev Sz {α : Type} (l : List α) : Prop := l.length ≤ 4294967296

def K_l10Abs : Nat × Contract := (Nm.spec_l10Abs, .sc Int (fun x => [i64 x]) (fun _ => True) (fun x => i64 (Pl.absW x)))
def K_within : Nat × Contract := (Nm.impl_within, .sc (Int × Int × Int) (fun x => [i64 x.1, i64 x.2.1, i64 x.2.2]) (fun _ => True) (fun x => bl (Pl.withinI x.1 x.2.1 x.2.2)))
def K_isMark : Nat × Contract := (Nm.impl_isMark, .sc (Int × Int) (fun x => [i64 x.1, i64 x.2]) (fun _ => True) (fun x => bl (Pl.isMark x.1 x.2)))
def K_variable : Nat × Contract := (Nm.impl_variable, .sc Int (fun x => [i64 x]) (fun _ => True) (fun x => i64 (Pl.varI x)))
def K_sClauseOk : Nat × Contract := (Nm.spec_ClauseOk, .sc (List Int × Int) (fun x => [ints x.1, i64 x.2]) (fun x => Sz x.1) (fun x => bl (Pl.specClause x.1 x.2)))
def K_iClauseOk : Nat × Contract := (Nm.impl_ClauseOk, .sc (List Int × Int) (fun x => [ints x.1, i64 x.2]) (fun x => Sz x.1) (fun x => bl (Pl.implClause x.1 x.2)))
def K_toIntS : Nat × Contract := (Nm.laws_toIntS, .im (List Int) (fun l => [ints l]) Sz ints)
def K_eqIntS : Nat × Contract := (Nm.laws_eqIntS, .sc (List Int × List Int) (fun x => [ints x.1, ints x.2]) (fun x => Sz x.1) (fun x => bl (decide (x.1 = x.2))))

def A_sClauseOk (l : List Int) (many : Int) : List Ann :=
  [.mk (Nat × Int) (fun x => x.1 ≤ l.length ∧ Pl.specClause l many = Pl.specLoop many x.2 (l.drop x.1)) (fun x => { fr := pad [ints l, i64 many, .any, .any, .any, i64 x.2, i64 x.1] 40, H := [] }) (fun x => l.length - x.1) (fun _ => [])]
def A_iClauseOk (l : List Int) (many : Int) : List Ann :=
  [.mk Nat (fun x => x ≤ l.length ∧ Pl.implClause l many = Pl.implLoop many (Pl.prev l x) (l.drop x)) (fun x => { fr := pad [ints l, i64 many, .any, .any, .any, .any, .any, .any, .any, .any, ints l, i64 l.length, i64 x] 37, H := [] }) (fun x => l.length - x) (fun _ => [])]
def A_toIntS (l : List Int) : List Ann :=
  [.mk (Nat × List Int) (fun x => x.1 ≤ l.length ∧ x.2.length = l.length ∧ x.2.take x.1 = l.take x.1) (fun x => { fr := pad [ints l, .any, .any, .osl 0 0 x.2.length, i64 x.1] 22, H := [arI x.2] }) (fun x => l.length - x.1) (fun _ => [])]
def A_eqIntS (l m : List Int) : List Ann :=
  [.mk Nat (fun x => x ≤ l.length ∧ l.length = m.length ∧ (l = m ↔ l.drop x = m.drop x)) (fun x => { fr := pad [ints l, ints m, .any, .any, .any, i64 x] 26, H := [] }) (fun x => l.length - x) (fun _ => [])]
end Cg

/-
  Plain functions, and what is known of the codes' callees and loops: rows of rows, values of marks. No condition.
-/
namespace Pl
def sz1 (n : Nat) (k : Int) : Int := if k - n < 0 then -1 else k - n
def szL : List (List Int) → Int → Int
  | [], k => k
  | x :: xs, k => if k - x.length < 0 then -1 else szL xs (k - x.length)
def szSS (l : List (List Int)) (k : Int) : Int := if k - l.length < 0 then -1 else szL l (k - l.length)
def logEnds (l : List (List Int)) : Bool := decide (l.length > 0) && decide ((l.getD (l.length - 1) []).length = 0)
def lIs (n : Int) (vals : List Bool) : Bool :=
  if n = 0 ∨ n > vals.length ∨ n < -vals.length then false else if n < 0 then !(vals.getD (-1 - n).toNat false) else vals.getD (n - 1).toNat false
def clauseIs (l : List Int) (vals : List Bool) : Bool := l.any fun x => lIs x vals
/-- Where the first is for which something holds. -/
def idx {α : Type} (p : α → Bool) : List α → Int
  | [] => -1
  | x :: l => if p x then 0 else if idx p l < 0 then -1 else idx p l + 1
end Pl
namespace Cg
open Go
abbrev SzL {α : Type} (l : List (List α)) : Prop := Sz l ∧ ∀ x ∈ l, Sz x
abbrev Ml {α : Type} (l : List α) : Prop := l.length ≤ 9223372036854775807
abbrev MlL {α : Type} (l : List (List α)) : Prop := Ml l ∧ ∀ x ∈ l, Ml x
abbrev Fu (k : Int) : Prop := 0 ≤ k ∧ k ≤ 1048576

def K_szIntS : Nat × Contract := (Nm.laws_szIntS, .sc (List Int × Int) (fun x => [ints x.1, i64 x.2]) (fun x => Ml x.1 ∧ Fu x.2) fun x => i64 (Pl.sz1 x.1.length x.2))
def K_szIntSS : Nat × Contract := (Nm.laws_szIntSS, .sc (List (List Int) × Int) (fun x => [intss x.1, i64 x.2]) (fun x => MlL x.1 ∧ Fu x.2) fun x => i64 (Pl.szSS x.1 x.2))
def K_toIntSS : Nat × Contract := (Nm.laws_toIntSS, .im (List (List Int)) (fun l => [intss l]) SzL intss)
def K_eqIntSS : Nat × Contract := (Nm.laws_eqIntSS, .sc (List (List Int) × List (List Int)) (fun x => [intss x.1, intss x.2]) (fun x => SzL x.1) fun x => bl (decide (x.1 = x.2)))
def A_szIntSS (l : List (List Int)) (k : Int) : List Ann :=
  [.mk (Nat × Int) (fun x => x.1 ≤ l.length ∧ Fu x.2 ∧ Pl.szSS l k = Pl.szL (l.drop x.1) x.2) (fun x => { fr := pad [intss l, i64 x.2, .any, .any, .any, i64 x.1] 27, H := [] }) (fun x => l.length - x.1) (fun _ => [])]
def A_toIntSS (l : List (List Int)) : List Ann :=
  [.mk (Nat × List (List Int)) (fun x => x.1 ≤ l.length ∧ x.2.length = l.length ∧ x.2.take x.1 = l.take x.1) (fun x => { fr := pad [intss l, .any, .any, .osl 0 0 x.2.length, i64 x.1] 23, H := [arII x.2] }) (fun x => l.length - x.1) (fun _ => [])]
def A_eqIntSS (l m : List (List Int)) : List Ann :=
  [.mk Nat (fun x => x ≤ l.length ∧ l.length = m.length ∧ (l = m ↔ l.drop x = m.drop x)) (fun x => { fr := pad [intss l, intss m, .any, .any, .any, i64 x] 27, H := [] }) (fun x => l.length - x) (fun _ => [])]
def A_toBoolS (l : List Bool) : List Ann :=
  [.mk (Nat × List Bool) (fun x => x.1 ≤ l.length ∧ x.2.length = l.length ∧ x.2.take x.1 = l.take x.1) (fun x => { fr := pad [bools l, .any, .any, .osl 0 0 x.2.length, i64 x.1] 22, H := [arB x.2] }) (fun x => l.length - x.1) (fun _ => [])]
def A_eqBoolS (l m : List Bool) : List Ann :=
  [.mk Nat (fun x => x ≤ l.length ∧ l.length = m.length ∧ (l = m ↔ l.drop x = m.drop x)) (fun x => { fr := pad [bools l, bools m, .any, .any, .any, i64 x] 26, H := [] }) (fun x => l.length - x) (fun _ => [])]
def A_sClauseIs (l : List Int) (v : List Bool) : List Ann :=
  [.mk Nat (fun x => x ≤ l.length ∧ Pl.clauseIs l v = Pl.clauseIs (l.drop x) v) (fun x => { fr := pad [ints l, bools v, .any, .any, .any, i64 x] 25, H := [] }) (fun x => l.length - x) (fun _ => [])]
end Cg

/-
  Plain functions, and what is known of the codes' callees and loops: words. No condition.
-/
namespace Pl
open Go
abbrev Sig := List Sym
def bs (s : ByteArray) : List UInt8 := s.data.toList
def lower (b : UInt8) : Bool := !(decide ((b.toNat : Int) < 97) || decide ((b.toNat : Int) > 122))
def nameOk (s : ByteArray) : Bool := decide (1 ≤ s.size) && decide (s.size ≤ 2) && (bs s).all lower
def isSort (n : Int) : Bool := decide (n = 0) || decide (n = 1)
def symOk (x : Sym) : Bool := nameOk x.1 && decide (x.2.1.length ≤ 2) && isSort x.2.2 && x.2.1.all isSort
def sLess (a b : ByteArray) : Bool := Op.bytesLess a.toList b.toList
def before (p : Option ByteArray) (x : ByteArray) : Bool := match p with
  | none => true
  | some q => sLess q x
def sigL : Option ByteArray → List Sym → Bool
  | _, [] => true
  | p, x :: xs => symOk x && before p x.1 && sigL (some x.1) xs
def sigOk (s : Sig) : Bool := sigL none s && decide (s.length ≤ 7)
def prevS (s : Sig) (k : Nat) : Option ByteArray := if k = 0 then none else some (s.getD (k - 1) dY).1
def lim (x : Int) : Int := if x < 0 then -1 else x
def costY (x : Sym) : Nat := x.1.size + x.2.1.length
def sumN {α : Type} (f : α → Nat) : List α → Nat
  | [] => 0
  | x :: xs => f x + sumN f xs
def costG (s : Sig) : Nat := s.length + sumN costY s
end Pl
namespace Cg
open Go Pl
def symA (x : Sym) : AV := .agg [st x.1, ints x.2.1, i64 x.2.2]
def sigA (s : Sig) : AV := .agg [syms s]
/-- A word whose parts are of any size at all, or of some. -/
abbrev MlY (x : Sym) : Prop := x.1.size ≤ 9223372036854775807 ∧ x.2.1.length ≤ 9223372036854775807
abbrev MlG (s : Sig) : Prop := s.length ≤ 9223372036854775807 ∧ ∀ x ∈ s, MlY x
abbrev SmG (s : Sig) : Prop := costG s ≤ 1048576
def K_szSym : Nat × Contract := (Nm.laws_szSym, .sc (Sym × Int) (fun x => [symA x.1, i64 x.2]) (fun x => MlY x.1 ∧ Fu x.2) fun x => i64 (lim (x.2 - costY x.1)))
def K_szSymS : Nat × Contract := (Nm.laws_szSymS, .sc (Sig × Int) (fun x => [syms x.1, i64 x.2]) (fun x => MlG x.1 ∧ Fu x.2) fun x => i64 (lim (x.2 - costG x.1)))
def K_szSig : Nat × Contract := (Nm.laws_szSig, .sc (Sig × Int) (fun x => [sigA x.1, i64 x.2]) (fun x => MlG x.1 ∧ Fu x.2) fun x => i64 (lim (x.2 - costG x.1)))
def K_toSym : Nat × Contract := (Nm.laws_toSym, .im Sym (fun x => [symA x]) (fun x => Sz x.2.1) symA)
def K_toSymS : Nat × Contract := (Nm.laws_toSymS, .im Sig (fun x => [syms x]) SmG syms)
def K_toSig : Nat × Contract := (Nm.laws_toSig, .im Sig (fun x => [sigA x]) SmG sigA)
def K_eqSym : Nat × Contract := (Nm.laws_eqSym, .sc (Sym × Sym) (fun x => [symA x.1, symA x.2]) (fun x => Sz x.1.2.1) fun x => bl (decide (x.1 = x.2)))
def K_eqSymS : Nat × Contract := (Nm.laws_eqSymS, .sc (Sig × Sig) (fun x => [syms x.1, syms x.2]) (fun x => SmG x.1) fun x => bl (decide (x.1 = x.2)))
def K_eqSig : Nat × Contract := (Nm.laws_eqSig, .sc (Sig × Sig) (fun x => [sigA x.1, sigA x.2]) (fun x => SmG x.1) fun x => bl (decide (x.1 = x.2)))
def K_sNameOk : Nat × Contract := (Nm.spec_NameOk, .sc ByteArray (fun x => [st x]) (fun x => x.size ≤ 1048576) fun x => bl (nameOk x))
def K_iNameOk : Nat × Contract := (Nm.impl_NameOk, .sc ByteArray (fun x => [st x]) (fun x => x.size ≤ 1048576) fun x => bl (nameOk x))
def K_l4Sort : Nat × Contract := (Nm.spec_l4Sort, .sc Int (fun x => [i64 x]) (fun _ => True) fun x => bl (isSort x))
def K_isSort : Nat × Contract := (Nm.impl_isSort, .sc Int (fun x => [i64 x]) (fun _ => True) fun x => bl (isSort x))
def K_sSigOk : Nat × Contract := (Nm.spec_SigOk, .sc Sig (fun x => [sigA x]) SmG fun x => bl (sigOk x))
def K_iSigOk : Nat × Contract := (Nm.impl_SigOk, .sc Sig (fun x => [sigA x]) SmG fun x => bl (sigOk x))
def K_symok : Nat × Contract := (Nm.impl_Sym_ok, .sc Sym (fun x => [symA x]) (fun x => x.1.size ≤ 1048576 ∧ Sz x.2.1) fun x => bl (symOk x))
def K_symok1 : Nat × Contract := (Nm.impl_Sym_ok_1, .sc Int (fun x => [i64 x]) (fun _ => True) fun x => bl (!isSort x))
def K_IndexSort : Nat × Contract := (Nm.slices_IndexFunc_Sint_int, .sc (List Int) (fun x => [ints x, .fn (.func Nm.impl_Sym_ok_1) []]) (fun x => Sz x) fun x => i64 (idx (fun y => !isSort y) x))
def K_ContainsSort : Nat × Contract := (Nm.slices_ContainsFunc_Sint_int, .sc (List Int) (fun x => [ints x, .fn (.func Nm.impl_Sym_ok_1) []]) (fun x => Sz x) fun x => bl (x.any fun y => !isSort y))
def A_szSymS (s : Sig) (k : Int) : List Ann :=
  [.mk Nat (fun x => x ≤ s.length ∧ 0 ≤ k - s.length - sumN costY (s.take x)) (fun x => { fr := pad [syms s, i64 (k - s.length - sumN costY (s.take x)), .any, .any, .any, i64 x] 27, H := [] }) (fun x => s.length - x) (fun _ => [])]
def A_toSymS (s : Sig) : List Ann :=
  [.mk (Nat × Sig) (fun x => x.1 ≤ s.length ∧ x.2.length = s.length ∧ x.2.take x.1 = s.take x.1) (fun x => { fr := pad [syms s, .any, .any, .osl 0 0 x.2.length, i64 x.1] 23, H := [arY x.2] }) (fun x => s.length - x.1) (fun _ => [])]
def A_eqSymS (s t : Sig) : List Ann :=
  [.mk Nat (fun x => x ≤ s.length ∧ s.length = t.length ∧ (s = t ↔ s.drop x = t.drop x)) (fun x => { fr := pad [syms s, syms t, .any, .any, .any, i64 x] 27, H := [] }) (fun x => s.length - x) (fun _ => [])]
def A_sNameOk (s : ByteArray) : List Ann :=
  [.mk Nat (fun x => x ≤ s.size ∧ (bs s).all lower = ((bs s).drop x).all lower) (fun x => { fr := pad [st s, .any, .any, i64 x] 28, H := [] }) (fun x => s.size - x) (fun _ => [])]
def A_iNameOk (s : ByteArray) : List Ann :=
  [.mk Nat (fun x => x ≤ s.size ∧ (bs s).all lower = ((bs s).drop x).all lower) (fun x => { fr := pad [st s, .any, .any, .any, .any, .any, .any, .any, .any, i64 s.size, i64 x] 24, H := [] }) (fun x => s.size - x) (fun _ => [])]
def A_IndexSort (l : List Int) : List Ann :=
  [.mk Nat (fun x => x ≤ l.length ∧ idx (fun y => !isSort y) l = if idx (fun y => !isSort y) (l.drop x) < 0 then -1 else idx (fun y => !isSort y) (l.drop x) + x)
    (fun x => { fr := pad [ints l, .fn (.func Nm.impl_Sym_ok_1) [], .any, .any, .any, .any, .any, i64 l.length, i64 x] 19, H := [] }) (fun x => l.length - x) (fun _ => [])]
def A_sSigOk (s : Sig) : List Ann :=
  [.mk Nat (fun x => x ≤ s.length ∧ sigL none s = sigL (prevS s x) (s.drop x)) (fun x => { fr := pad [.any, .ptr 0 0, .any, i64 x] 68, H := [.var [syms s]] }) (fun x => s.length - x)
    (fun x => [.mk Nat (fun j => x < s.length ∧ j ≤ (s.getD x dY).2.1.length ∧ (s.getD x dY).2.1.all isSort = ((s.getD x dY).2.1.drop j).all isSort ∧ (nameOk (s.getD x dY).1 && decide ((s.getD x dY).2.1.length ≤ 2) && isSort (s.getD x dY).2.2) = true ∧ before (prevS s x) (s.getD x dY).1 = true)
      (fun j => { fr := pad [.any, .ptr 0 0, .any, i64 x, .ptr 1 0, i64 j] 68, H := [.var [syms s], .var [st (s.getD x dY).1, ints (s.getD x dY).2.1, i64 (s.getD x dY).2.2]] }) (fun j => (s.getD x dY).2.1.length - j) (fun _ => [])])]
def A_iSigOk (s : Sig) : List Ann :=
  [.mk Nat (fun x => x ≤ s.length ∧ sigL none s = sigL (prevS s x) (s.drop x)) (fun x => { fr := pad [.any, .ptr 0 0, .any, .any, .any, .any, syms s, i64 s.length, i64 x] 37, H := [.var [syms s]] }) (fun x => s.length - x) (fun _ => [])]
end Cg

/-
  Plain functions, and what is known of the codes' callees and loops: terms. No condition.
-/
namespace Pl
open Go
def shape : Nat → Tm → Bool
  | 0, _ => false
  | n + 1, t => nameOk t.val && decide (t.kids.length ≤ 2) && t.kids.all (shape n)
def manyD : Nat → Tm → Nat
  | 0, _ => 1
  | n + 1, t => 1 + sumN (manyD n) t.kids
def right (t : Tm) : Bool := shape 4 t && decide (manyD 4 t ≤ 12)
def tsz : Nat → Tm → Nat
  | 0, _ => 13
  | n + 1, t => if (!nameOk t.val || decide (t.kids.length > 2)) = true then 13 else 1 + sumN (tsz n) t.kids
def isTerm (t : Tm) : Bool := decide (tsz 4 t ≤ 12)
def find (s : Sig) (nm : ByteArray) : Option Sym := s.find? fun x => decide (x.1 = nm)
mutual
def sortT (s : Sig) : Tm → Option Int
  | .mk v ks => match find s v with
    | none => none
    | some x => if x.2.1.length ≠ ks.length then none else if sortL s ks x.2.1 = true then some x.2.2 else none
def sortL (s : Sig) : List Tm → List Int → Bool
  | [], _ => true
  | t :: ts, qs => decide (sortT s t = some (qs.headD 0)) && sortL s ts qs.tail
end
mutual
def costT : Tm → Nat
  | .mk v ks => v.size + ks.length + costTs ks
def costTs : List Tm → Nat
  | [] => 0
  | t :: ts => costT t + costTs ts
end
theorem costT_eq (t : Tm) : costT t = t.val.size + t.kids.length + costTs t.kids := by cases t; simp only [costT, Tree.val, Tree.kids]
/-- A thing that holds of all terms in a term. -/
inductive AllT (p : Tm → Prop) : Tm → Prop where
  | mk {t : Tm} (h : p t) (hk : ∀ u ∈ t.kids, AllT p u) : AllT p t
theorem AllT.here {p : Tm → Prop} {t : Tm} (h : AllT p t) : p t := by cases h; assumption
end Pl
namespace Cg
open Go Pl
def termA (x : TP) : AV := .agg [st x.1, terms x.2]
abbrev TP.tm (x : TP) : Tm := .mk x.1 x.2
abbrev MlT (t : Tm) : Prop := AllT (fun u => u.val.size ≤ 9223372036854775807 ∧ u.kids.length ≤ 9223372036854775807) t
abbrev SmT (t : Tm) : Prop := costT t ≤ 1048576
abbrev SmTs (l : List Tm) : Prop := l.length + costTs l ≤ 1048576
def K_szTerm (n : Nat) : Nat × Contract := (Nm.laws_szTerm, .sc (TP × Int) (fun x => [termA x.1, i64 x.2]) (fun x => (MlT (.mk x.1.1 x.1.2) ∧ Fu x.2) ∧ manyL x.1.2 < n) fun x => i64 (lim (x.2 - costT (.mk x.1.1 x.1.2))))
def K_szTermS (n : Nat) : Nat × Contract := (Nm.laws_szTermS, .sc (List Tm × Int) (fun x => [terms x.1, i64 x.2]) (fun x => ((Ml x.1 ∧ ∀ t ∈ x.1, MlT t) ∧ Fu x.2) ∧ manyL x.1 < n) fun x => i64 (lim (x.2 - (x.1.length + costTs x.1 : Nat))))
def K_toTerm (n : Nat) : Nat × Contract := (Nm.laws_toTerm, .im TP (fun x => [termA x]) (fun x => SmT (.mk x.1 x.2) ∧ manyL x.2 < n) termA)
def K_toTermS (n : Nat) : Nat × Contract := (Nm.laws_toTermS, .im (List Tm) (fun x => [terms x]) (fun x => SmTs x ∧ manyL x < n) terms)
noncomputable def K_eqTerm (n : Nat) : Nat × Contract := (Nm.laws_eqTerm, .sc (TP × TP) (fun x => [termA x.1, termA x.2]) (fun x => SmT (.mk x.1.1 x.1.2) ∧ manyL x.1.2 < n) fun x => bl (decide (x.1 = x.2)))
noncomputable def K_eqTermS (n : Nat) : Nat × Contract := (Nm.laws_eqTermS, .sc (List Tm × List Tm) (fun x => [terms x.1, terms x.2]) (fun x => SmTs x.1 ∧ manyL x.1 < n) fun x => bl (decide (x.1 = x.2)))
def K_szT : Nat × Contract := (Nm.laws_szTerm, .sc (TP × Int) (fun x => [termA x.1, i64 x.2]) (fun x => MlT (.mk x.1.1 x.1.2) ∧ Fu x.2) fun x => i64 (lim (x.2 - costT (.mk x.1.1 x.1.2))))
def K_szTs : Nat × Contract := (Nm.laws_szTermS, .sc (List Tm × Int) (fun x => [terms x.1, i64 x.2]) (fun x => (Ml x.1 ∧ ∀ t ∈ x.1, MlT t) ∧ Fu x.2) fun x => i64 (lim (x.2 - (x.1.length + costTs x.1 : Nat))))
def K_toT : Nat × Contract := (Nm.laws_toTerm, .im TP (fun x => [termA x]) (fun x => SmT (.mk x.1 x.2)) termA)
def K_toTs : Nat × Contract := (Nm.laws_toTermS, .im (List Tm) (fun x => [terms x]) SmTs terms)
noncomputable def K_eqT : Nat × Contract := (Nm.laws_eqTerm, .sc (TP × TP) (fun x => [termA x.1, termA x.2]) (fun x => SmT (.mk x.1.1 x.1.2)) fun x => bl (decide (x.1 = x.2)))
noncomputable def K_eqTs : Nat × Contract := (Nm.laws_eqTermS, .sc (List Tm × List Tm) (fun x => [terms x.1, terms x.2]) (fun x => SmTs x.1) fun x => bl (decide (x.1 = x.2)))

def A_szTermS (l : List Tm) (k : Int) : List Ann :=
  [.mk Nat (fun x => x ≤ l.length ∧ 0 ≤ k - l.length - costTs (l.take x)) (fun x => { fr := pad [terms l, i64 (k - l.length - costTs (l.take x)), .any, .any, .any, i64 x] 27, H := [] }) (fun x => l.length - x) (fun _ => [])]
def A_toTermS (l : List Tm) : List Ann :=
  [.mk (Nat × List Tm) (fun x => x.1 ≤ l.length ∧ x.2.length = l.length ∧ x.2.take x.1 = l.take x.1) (fun x => { fr := pad [terms l, .any, .any, .osl 0 0 x.2.length, i64 x.1] 23, H := [arT x.2] }) (fun x => l.length - x.1) (fun _ => [])]
def A_eqTermS (l m : List Tm) : List Ann :=
  [.mk Nat (fun x => x ≤ l.length ∧ l.length = m.length ∧ (l = m ↔ l.drop x = m.drop x)) (fun x => { fr := pad [terms l, terms m, .any, .any, .any, i64 x] 27, H := [] }) (fun x => l.length - x) (fun _ => [])]
end Cg

/-
  Plain functions, and what is known of the codes' callees and loops: the sorts of terms. No condition.
-/
namespace Pl
open Go
def symOf (s : Sig) (nm : ByteArray) : Sym := (find s nm).getD dY
def termSort (s : Sig) (t : Tm) : Int × Bool := if (sigOk s && right t) = true then ((sortT s t).getD 0, (sortT s t).isSome) else (0, false)
end Pl
namespace Cg
open Go Pl
def K_l4Shape (n : Nat) : Nat × Contract := (Nm.spec_l4Shape, .sc TP (fun x => [termA x, i64 n]) (fun x => SmT (.mk x.1 x.2) ∧ n ≤ 10) fun x => bl (shape n (.mk x.1 x.2)))
def K_l4Many (n : Nat) : Nat × Contract := (Nm.spec_l4Many, .sc TP (fun x => [termA x, i64 n]) (fun x => SmT (.mk x.1 x.2) ∧ n ≤ 10) fun x => i64 (manyD n (.mk x.1 x.2)))
def K_l4Right : Nat × Contract := (Nm.spec_l4Right, .sc TP (fun x => [termA x]) (fun x => SmT (.mk x.1 x.2)) fun x => bl (right (.mk x.1 x.2)))
def K_termSize (n : Nat) : Nat × Contract := (Nm.impl_termSize, .sc TP (fun x => [termA x, i64 (5 - (n : Int))]) (fun x => SmT (.mk x.1 x.2) ∧ n ≤ 4) fun x => i64 (tsz n (.mk x.1 x.2)))
def K_isTerm : Nat × Contract := (Nm.impl_isTerm, .sc TP (fun x => [termA x]) (fun x => SmT (.mk x.1 x.2)) fun x => bl (right (.mk x.1 x.2)))
def A_l4Shape (n : Nat) (a : ByteArray) (b : List Tm) : List Ann :=
  [.mk Nat (fun x => x ≤ b.length ∧ shape (n + 1) (.mk a b) = (b.drop x).all (shape n)) (fun x => { fr := pad [.any, i64 ((n + 1 : Nat) : Int), .ptr 0 0, .any, .any, i64 x] 36, H := [.var [st a, terms b]] }) (fun x => b.length - x) (fun _ => [])]
def A_l4Many (n : Nat) (a : ByteArray) (b : List Tm) : List Ann :=
  [.mk Nat (fun x => x ≤ b.length) (fun x => { fr := pad [.any, i64 ((n + 1 : Nat) : Int), .ptr 0 0, .any, .any, i64 ((1 + sumN (manyD n) (b.take x) : Nat) : Int), i64 x] 29, H := [.var [st a, terms b]] }) (fun x => b.length - x) (fun _ => [])]
def A_l4Many0 (a : ByteArray) (b : List Tm) : List Ann :=
  [.mk Unit (fun _ => True) (fun x => { fr := pad [.any, i64 0, .ptr 0 0, .any, .any, i64 1, i64 0] 29, H := [.var [st a, terms b]] }) (fun _ => 0) (fun _ => [])]
def A_termSize (n : Nat) (a : ByteArray) (b : List Tm) : List Ann :=
  [.mk Nat (fun x => x ≤ b.length ∧ b.length ≤ 2) (fun x => { fr := pad [.any, i64 (5 - ((n + 1 : Nat) : Int)), .ptr 0 0, .any, .any, i64 ((1 + sumN (tsz n) (b.take x) : Nat) : Int), .any, .any, .any, .any, .any, .any, .any, .any, .any, .any, .any, .any, .any, .any, .any, .any, .any, terms b, i64 b.length, i64 x] 37, H := [.var [st a, terms b]] }) (fun x => b.length - x) (fun _ => [])]
def A_l4Find (s : Sig) (nm : ByteArray) : List Ann :=
  [.mk Nat (fun x => x ≤ s.length ∧ find s nm = find (s.drop x) nm) (fun x => { fr := pad [.any, st nm, .ptr 0 0, .any, .ptr 1 0, .any, i64 x] 28, H := [.var [syms s], .var [st ByteArray.empty, nilA, i64 0]] }) (fun x => s.length - x) (fun _ => [])]
def A_symbol (s : Sig) (nm : ByteArray) : List Ann :=
  [.mk Nat (fun x => x ≤ s.length ∧ find s nm = find (s.drop x) nm) (fun x => { fr := pad [.any, st nm, .ptr 0 0, .any, .ptr 1 0, .any, .any, .any, .any, syms s, i64 s.length, i64 x] 22, H := [.var [syms s], .var [st ByteArray.empty, nilA, i64 0]] }) (fun x => s.length - x) (fun _ => [])]
def A_l4Of (s : Sig) (a : ByteArray) (b : List Tm) : List Ann :=
  [.mk Nat (fun x => x ≤ b.length ∧ (symOf s a).2.1.length = b.length ∧ (find s a).isSome = true ∧ sortL s b (symOf s a).2.1 = sortL s (b.drop x) ((symOf s a).2.1.drop x))
    (fun x => { fr := pad [.any, .any, .ptr 0 0, .ptr 1 0, .any, .ptr 2 0, .any, i64 x] 48, H := [.var [syms s], .var [st a, terms b], .var [st (symOf s a).1, ints (symOf s a).2.1, i64 (symOf s a).2.2]] }) (fun x => b.length - x) (fun _ => [])]
def A_sortOf (s : Sig) (a : ByteArray) (b : List Tm) : List Ann :=
  [.mk Nat (fun x => x ≤ b.length ∧ (symOf s a).2.1.length = b.length ∧ (find s a).isSome = true ∧ sortL s b (symOf s a).2.1 = sortL s (b.drop x) ((symOf s a).2.1.drop x))
    (fun x => { fr := pad [.any, .any, .ptr 0 0, .ptr 1 0, .any, .any, .ptr 2 0, .any, .any, .any, .any, .any, .any, .any, .any, .any, .any, .any, .any, .any, .any, .any, .any, .any, .any, .any, .any, .any, .any, .any, .any, terms b, i64 b.length, i64 x] 58, H := [.var [syms s], .var [st a, terms b], .var [st (symOf s a).1, ints (symOf s a).2.1, i64 (symOf s a).2.2]] }) (fun x => b.length - x) (fun _ => [])]
end Cg

/-
  Plain functions, and what is known of the codes' callees and loops: clause sets. No condition.
-/
namespace Pl
abbrev Cnf := Int × List (List Int)
def cnfOk (c : Cnf) : Bool := decide (0 ≤ c.1) && decide (c.1 ≤ 60) && decide (c.2.length ≤ 400) && c.2.all fun x => specClause x c.1
def cnfIs (c : Cnf) (v : List Bool) : Bool := cnfOk c && decide ((v.length : Int) = c.1) && c.2.all fun x => clauseIs x v
end Pl
namespace Cg
open Go
def cnf (c : Pl.Cnf) : AV := .agg [i64 c.1, intss c.2]
def patCnf (m : Int) (l : List (List Int)) : AV := cnf (m, l)
abbrev SzC (c : Pl.Cnf) : Prop := SzL c.2
def K_slEqual : Nat × Contract := (Nm.slices_Equal_Sint_int, .sc (List Int × List Int) (fun x => [ints x.1, ints x.2]) (fun x => Sz x.1) fun x => bl (decide (x.1 = x.2)))
def A_l5Ints (l m : List Int) : List Ann :=
  [.mk Nat (fun x => x ≤ l.length ∧ l.length = m.length ∧ (l = m ↔ l.drop x = m.drop x)) (fun x => { fr := pad [ints l, ints m, .any, .any, .any, i64 x] 26, H := [] }) (fun x => l.length - x) (fun _ => [])]
def A_slEqual (l m : List Int) : List Ann :=
  [.mk Nat (fun x => x ≤ l.length ∧ l.length = m.length ∧ (l = m ↔ l.drop x = m.drop x)) (fun x => { fr := pad [ints l, ints m, .any, .any, .any, .any, .any, .any, .any, .any, .any, .any, i64 l.length, i64 x] 26, H := [] }) (fun x => l.length - x) (fun _ => [])]
def A_sCnfSame (c d : Pl.Cnf) : List Ann :=
  [.mk Nat (fun x => x ≤ c.2.length ∧ c.2.length = d.2.length ∧ c.1 = d.1 ∧ (c.2 = d.2 ↔ c.2.drop x = d.2.drop x)) (fun x => { fr := pad [.any, .any, .ptr 0 0, .ptr 1 0, .any, i64 x] 39, H := [.var [i64 c.1, intss c.2], .var [i64 d.1, intss d.2]] }) (fun x => c.2.length - x) (fun _ => [])]
def A_EqualFuncInts (l m : List (List Int)) : List Ann :=
  [.mk Nat (fun x => x ≤ l.length ∧ l.length = m.length ∧ (l = m ↔ l.drop x = m.drop x)) (fun x => { fr := pad [intss l, intss m, .fn (.func Nm.slices_Equal_Sint_int) [], .any, .any, .any, .any, .any, .any, .any, .any, .any, .any, .any, .any, intss l, i64 l.length, i64 x] 32, H := [] }) (fun x => l.length - x) (fun _ => [])]
def A_sCnfOk (c : Pl.Cnf) : List Ann :=
  [.mk Nat (fun x => x ≤ c.2.length ∧ Pl.cnfOk c = (c.2.drop x).all fun y => Pl.specClause y c.1) (fun x => { fr := pad [.any, .ptr 0 0, .any, i64 x] 34, H := [.var [i64 c.1, intss c.2]] }) (fun x => c.2.length - x) (fun _ => [])]
def A_sCnfIs (c : Pl.Cnf) (v : List Bool) : List Ann :=
  [.mk Nat (fun x => x ≤ c.2.length ∧ Pl.cnfIs c v = (c.2.drop x).all fun y => Pl.clauseIs y v) (fun x => { fr := pad [.any, bools v, .ptr 0 0, .any, .any, i64 x] 31, H := [.var [i64 c.1, intss c.2]] }) (fun x => c.2.length - x) (fun _ => [])]
end Cg

/-
  Atoms, formulas, explanations, cases: how they lie in cells; sizes, copies, equality. No condition.
-/
set_option linter.unusedVariables false
set_option linter.unusedSimpArgs false
namespace Pl
mutual
/-- What a tree costs, and trees, by what its things cost. -/
def costTr {α : Type} (f : α → Nat) : Tree α → Nat
  | .mk v ks => f v + ks.length + costTrs f ks
def costTrs {α : Type} (f : α → Nat) : List (Tree α) → Nat
  | [] => 0
  | t :: ts => costTr f t + costTrs f ts
end
/-- A thing that holds of all trees in a tree. -/
inductive AllTr {α : Type} (p : Tree α → Prop) : Tree α → Prop where
  | mk {t : Tree α} (h : p t) (hk : ∀ u ∈ t.kids, AllTr p u) : AllTr p t
section
variable {α : Type} {f : α → Nat}
theorem AllTr.here {p : Tree α → Prop} {t : Tree α} (h : AllTr p t) : p t := by cases h; assumption
theorem costTr_eq (t : Tree α) : costTr f t = f t.val + t.kids.length + costTrs f t.kids := by cases t; simp only [costTr, Tree.val, Tree.kids]
end
abbrev Atm := Int × TP × TP × List Tm × List Int × Int × Bool
abbrev Ltr := Atm × Bool
abbrev PF := Int × Ltr
abbrev Frm := Tree PF
abbrev FP := PF × List Frm
abbrev PW := Int × Int × TP
abbrev Wy := Tree PW
abbrev WP := PW × List Wy
abbrev PC := Int × Int × WP × List Int × TP × TP
abbrev Cse := Tree PC
abbrev CP := PC × List Cse
noncomputable instance instA : DecidableEq Atm := fun a b => Classical.propDecidable (a = b)
noncomputable instance instL : DecidableEq Ltr := fun a b => Classical.propDecidable (a = b)
noncomputable instance instPF : DecidableEq PF := fun a b => Classical.propDecidable (a = b)
noncomputable instance instFP : DecidableEq FP := fun a b => Classical.propDecidable (a = b)
noncomputable instance instWP : DecidableEq WP := fun a b => Classical.propDecidable (a = b)
noncomputable instance instPC : DecidableEq PC := fun a b => Classical.propDecidable (a = b)
noncomputable instance instCP : DecidableEq CP := fun a b => Classical.propDecidable (a = b)
def dPF : PF := (0, (0, (ByteArray.empty, []), (ByteArray.empty, []), [], [], 0, false), false)
def dF : Frm := .mk dPF []
def dPW : PW := (0, 0, ByteArray.empty, [])
def dW : Wy := .mk dPW []
def dPC : PC := (0, 0, (dPW, []), [], (ByteArray.empty, []), (ByteArray.empty, []))
def dC : Cse := .mk dPC []
def costA (x : Atm) : Nat := costT (.mk x.2.1.1 x.2.1.2) + costT (.mk x.2.2.1.1 x.2.2.1.2) + (x.2.2.2.1.length + costTs x.2.2.2.1) + x.2.2.2.2.1.length
def costL (x : Ltr) : Nat := costA x.1
def costPF (x : PF) : Nat := costL x.2
def costPW (x : PW) : Nat := costT (.mk x.2.2.1 x.2.2.2)
def costPC (x : PC) : Nat := costTr costPW (.mk x.2.2.1.1 x.2.2.1.2) + x.2.2.2.1.length + costT (.mk x.2.2.2.2.1.1 x.2.2.2.2.1.2) + costT (.mk x.2.2.2.2.2.1 x.2.2.2.2.2.2)
end Pl
namespace Cg
open Go Pl
def ePF (x : PF) (j : Nat) : AV := match j with
  | 0 => i64 x.1
  | 1 => i64 x.2.1.1
  | 2 => st x.2.1.2.1.1
  | 3 => terms x.2.1.2.1.2
  | 4 => st x.2.1.2.2.1.1
  | 5 => terms x.2.1.2.2.1.2
  | 6 => terms x.2.1.2.2.2.1
  | 7 => ints x.2.1.2.2.2.2.1
  | 8 => i64 x.2.1.2.2.2.2.2.1
  | 9 => bl x.2.1.2.2.2.2.2.2
  | _ => bl x.2.2
theorem EncN.ePF : EncN 11 ePF := fun x y => by
  constructor
  · intro h
    have h0 : Is (i64 x.1) (i64 y.1) := h 0 (by decide)
    have h1 : Is (i64 x.2.1.1) (i64 y.2.1.1) := h 1 (by decide)
    have h2 : Is (st x.2.1.2.1.1) (st y.2.1.2.1.1) := h 2 (by decide)
    have h3 : Is (terms x.2.1.2.1.2) (terms y.2.1.2.1.2) := h 3 (by decide)
    have h4 : Is (st x.2.1.2.2.1.1) (st y.2.1.2.2.1.1) := h 4 (by decide)
    have h5 : Is (terms x.2.1.2.2.1.2) (terms y.2.1.2.2.1.2) := h 5 (by decide)
    have h6 : Is (terms x.2.1.2.2.2.1) (terms y.2.1.2.2.2.1) := h 6 (by decide)
    have h7 : Is (ints x.2.1.2.2.2.2.1) (ints y.2.1.2.2.2.2.1) := h 7 (by decide)
    have h8 : Is (i64 x.2.1.2.2.2.2.2.1) (i64 y.2.1.2.2.2.2.2.1) := h 8 (by decide)
    have h9 : Is (bl x.2.1.2.2.2.2.2.2) (bl y.2.1.2.2.2.2.2.2) := h 9 (by decide)
    have h10 : Is (bl x.2.2) (bl y.2.2) := h 10 (by decide)
    simp only [Is_i64, Is_u8, Is_bl, Is_st, Is_ints, Is_bools, Is_strs, Is_intss, Is_terms] at h0 h1 h2 h3 h4 h5 h6 h7 h8 h9 h10
    grind
  · rintro rfl j hj
    match j, hj with
    | 0, _ => show Is (i64 x.1) (i64 x.1); simp
    | 1, _ => show Is (i64 x.2.1.1) (i64 x.2.1.1); simp
    | 2, _ => show Is (st x.2.1.2.1.1) (st x.2.1.2.1.1); simp
    | 3, _ => show Is (terms x.2.1.2.1.2) (terms x.2.1.2.1.2); simp
    | 4, _ => show Is (st x.2.1.2.2.1.1) (st x.2.1.2.2.1.1); simp
    | 5, _ => show Is (terms x.2.1.2.2.1.2) (terms x.2.1.2.2.1.2); simp
    | 6, _ => show Is (terms x.2.1.2.2.2.1) (terms x.2.1.2.2.2.1); simp
    | 7, _ => show Is (ints x.2.1.2.2.2.2.1) (ints x.2.1.2.2.2.2.1); simp
    | 8, _ => show Is (i64 x.2.1.2.2.2.2.2.1) (i64 x.2.1.2.2.2.2.2.1); simp
    | 9, _ => show Is (bl x.2.1.2.2.2.2.2.2) (bl x.2.1.2.2.2.2.2.2); simp
    | 10, _ => show Is (bl x.2.2) (bl x.2.2); simp
def subF (t : Frm) : Nat → Nat → AV := subTr 11 ePF t
def eF (t : Frm) (j : Nat) : AV := match j with
  | 0 => i64 t.val.1
  | 1 => i64 t.val.2.1.1
  | 2 => st t.val.2.1.2.1.1
  | 3 => terms t.val.2.1.2.1.2
  | 4 => st t.val.2.1.2.2.1.1
  | 5 => terms t.val.2.1.2.2.1.2
  | 6 => terms t.val.2.1.2.2.2.1
  | 7 => ints t.val.2.1.2.2.2.2.1
  | 8 => i64 t.val.2.1.2.2.2.2.2.1
  | 9 => bl t.val.2.1.2.2.2.2.2.2
  | 10 => bl t.val.2.2
  | _ => .sl t.kids.length 12 (subF t)
theorem eF_tr (t : Frm) : ∀ j, j < 12 → eF t j = eTr 11 ePF t j
  | 0, _ => (eTr_lt (k := 11) (e := ePF) (t := t) (j := 0) (by decide)).symm
  | 1, _ => (eTr_lt (k := 11) (e := ePF) (t := t) (j := 1) (by decide)).symm
  | 2, _ => (eTr_lt (k := 11) (e := ePF) (t := t) (j := 2) (by decide)).symm
  | 3, _ => (eTr_lt (k := 11) (e := ePF) (t := t) (j := 3) (by decide)).symm
  | 4, _ => (eTr_lt (k := 11) (e := ePF) (t := t) (j := 4) (by decide)).symm
  | 5, _ => (eTr_lt (k := 11) (e := ePF) (t := t) (j := 5) (by decide)).symm
  | 6, _ => (eTr_lt (k := 11) (e := ePF) (t := t) (j := 6) (by decide)).symm
  | 7, _ => (eTr_lt (k := 11) (e := ePF) (t := t) (j := 7) (by decide)).symm
  | 8, _ => (eTr_lt (k := 11) (e := ePF) (t := t) (j := 8) (by decide)).symm
  | 9, _ => (eTr_lt (k := 11) (e := ePF) (t := t) (j := 9) (by decide)).symm
  | 10, _ => (eTr_lt (k := 11) (e := ePF) (t := t) (j := 10) (by decide)).symm
  | 11, _ => (eTr_kids (k := 11) (e := ePF) (t := t)).symm
theorem EncN.eF : EncN 12 eF := fun x y => by
  rw [← EncN.tr EncN.ePF x y]
  exact ⟨fun h j hj => by rw [← eF_tr x j hj, ← eF_tr y j hj]; exact h j hj, fun h j hj => by rw [eF_tr x j hj, eF_tr y j hj]; exact h j hj⟩
def kidsF (t : Frm) : AV := .sl t.kids.length 12 (subF t)
def cF (l : List Frm) : Nat → Nat → AV := fun i j => eF (l.getD i dF) j
def forms (l : List Frm) : AV := .sl l.length 12 fun i j => eF (l.getD i dF) j
def arF (l : List Frm) : AObj := .arr l.length 12 fun i j => eF (l.getD i dF) j
theorem Enc.forms : Enc forms := Enc.sln (by decide) EncN.eF dF
@[simp] theorem Is_forms {x y : List Frm} : Is (forms x) (forms y) ↔ x = y := Enc.forms x y
@[simp] theorem IsO_forms {x y : List Frm} : IsO (arF x) (arF y) ↔ y = [] ∨ x = y := IsO_arn EncN.eF
@[simp] theorem IsO_forms0 {n : Nat} {c : Nat → Nat → AV} : IsO (.arr n 12 c) (arF []) := IsO_nil
@[simp] theorem forms_nil {q : Nat} {c : Nat → Nat → AV} {m : List Frm} : Is (.lit 0 q c) (forms m) ↔ m = [] := nil_sln
@[simp] theorem forms_nilA {m : List Frm} : Is nilA (forms m) ↔ m = [] := nil_sln
@[simp] theorem forms_join {l m : List Frm} : IsO (.arr (l.length + m.length) 12 (joinC l.length (cF l) (cF m))) (arF (l ++ m)) := IsO_join EncN.eF (IsR_cel EncN.eF)
@[simp] theorem forms_join0 {m : List Frm} {c : Nat → Nat → AV} : IsO (.arr (0 + m.length) 12 (joinC 0 c (cF m))) (arF m) := IsO_join0 EncN.eF (IsR_cel EncN.eF)
@[simp] theorem forms_join0' {m : List Frm} {c : Nat → Nat → AV} : IsO (.arr m.length 12 (joinC 0 c (cF m))) (arF m) := IsO_join0 EncN.eF (IsR_cel EncN.eF)
@[simp] theorem Is_kidsF {t : Frm} {m : List Frm} : Is (kidsF t) (forms m) ↔ t.kids = m :=
  Is_sl_iff2 (d := dF) (by decide) (fun x _ y => EncN.eF x y) (fun i hi j hj => by rw [eF_tr _ j hj]; exact subTr_get dF t i hi j) (fun i _ j _ => rfl)
@[simp] theorem Is_forms_kidsF {t : Frm} {m : List Frm} : Is (forms m) (kidsF t) ↔ m = t.kids :=
  Is_sl_iff2 (d := dF) (by decide) (fun x _ y => EncN.eF x y) (fun i _ j _ => rfl) (fun i hi j hj => by rw [eF_tr _ j hj]; exact subTr_get dF t i hi j)
@[simp] theorem Is_kidsF2 {t u : Frm} : Is (kidsF t) (kidsF u) ↔ t.kids = u.kids :=
  Is_sl_iff2 (d := dF) (by decide) (fun x _ y => EncN.eF x y) (fun i hi j hj => by rw [eF_tr _ j hj]; exact subTr_get dF t i hi j) (fun i hi j hj => by rw [eF_tr _ j hj]; exact subTr_get dF u i hi j)
def ePW (x : PW) (j : Nat) : AV := match j with
  | 0 => i64 x.1
  | 1 => i64 x.2.1
  | 2 => st x.2.2.1
  | _ => terms x.2.2.2
theorem EncN.ePW : EncN 4 ePW := fun x y => by
  constructor
  · intro h
    have h0 : Is (i64 x.1) (i64 y.1) := h 0 (by decide)
    have h1 : Is (i64 x.2.1) (i64 y.2.1) := h 1 (by decide)
    have h2 : Is (st x.2.2.1) (st y.2.2.1) := h 2 (by decide)
    have h3 : Is (terms x.2.2.2) (terms y.2.2.2) := h 3 (by decide)
    simp only [Is_i64, Is_u8, Is_bl, Is_st, Is_ints, Is_bools, Is_strs, Is_intss, Is_terms] at h0 h1 h2 h3
    grind
  · rintro rfl j hj
    match j, hj with
    | 0, _ => show Is (i64 x.1) (i64 x.1); simp
    | 1, _ => show Is (i64 x.2.1) (i64 x.2.1); simp
    | 2, _ => show Is (st x.2.2.1) (st x.2.2.1); simp
    | 3, _ => show Is (terms x.2.2.2) (terms x.2.2.2); simp
def subW (t : Wy) : Nat → Nat → AV := subTr 4 ePW t
def eW (t : Wy) (j : Nat) : AV := match j with
  | 0 => i64 t.val.1
  | 1 => i64 t.val.2.1
  | 2 => st t.val.2.2.1
  | 3 => terms t.val.2.2.2
  | _ => .sl t.kids.length 5 (subW t)
theorem eW_tr (t : Wy) : ∀ j, j < 5 → eW t j = eTr 4 ePW t j
  | 0, _ => (eTr_lt (k := 4) (e := ePW) (t := t) (j := 0) (by decide)).symm
  | 1, _ => (eTr_lt (k := 4) (e := ePW) (t := t) (j := 1) (by decide)).symm
  | 2, _ => (eTr_lt (k := 4) (e := ePW) (t := t) (j := 2) (by decide)).symm
  | 3, _ => (eTr_lt (k := 4) (e := ePW) (t := t) (j := 3) (by decide)).symm
  | 4, _ => (eTr_kids (k := 4) (e := ePW) (t := t)).symm
theorem EncN.eW : EncN 5 eW := fun x y => by
  rw [← EncN.tr EncN.ePW x y]
  exact ⟨fun h j hj => by rw [← eW_tr x j hj, ← eW_tr y j hj]; exact h j hj, fun h j hj => by rw [eW_tr x j hj, eW_tr y j hj]; exact h j hj⟩
def kidsW (t : Wy) : AV := .sl t.kids.length 5 (subW t)
def cW (l : List Wy) : Nat → Nat → AV := fun i j => eW (l.getD i dW) j
def whys (l : List Wy) : AV := .sl l.length 5 fun i j => eW (l.getD i dW) j
def arW (l : List Wy) : AObj := .arr l.length 5 fun i j => eW (l.getD i dW) j
theorem Enc.whys : Enc whys := Enc.sln (by decide) EncN.eW dW
@[simp] theorem Is_whys {x y : List Wy} : Is (whys x) (whys y) ↔ x = y := Enc.whys x y
@[simp] theorem IsO_whys {x y : List Wy} : IsO (arW x) (arW y) ↔ y = [] ∨ x = y := IsO_arn EncN.eW
@[simp] theorem IsO_whys0 {n : Nat} {c : Nat → Nat → AV} : IsO (.arr n 5 c) (arW []) := IsO_nil
@[simp] theorem whys_nil {q : Nat} {c : Nat → Nat → AV} {m : List Wy} : Is (.lit 0 q c) (whys m) ↔ m = [] := nil_sln
@[simp] theorem whys_nilA {m : List Wy} : Is nilA (whys m) ↔ m = [] := nil_sln
@[simp] theorem whys_join {l m : List Wy} : IsO (.arr (l.length + m.length) 5 (joinC l.length (cW l) (cW m))) (arW (l ++ m)) := IsO_join EncN.eW (IsR_cel EncN.eW)
@[simp] theorem whys_join0 {m : List Wy} {c : Nat → Nat → AV} : IsO (.arr (0 + m.length) 5 (joinC 0 c (cW m))) (arW m) := IsO_join0 EncN.eW (IsR_cel EncN.eW)
@[simp] theorem whys_join0' {m : List Wy} {c : Nat → Nat → AV} : IsO (.arr m.length 5 (joinC 0 c (cW m))) (arW m) := IsO_join0 EncN.eW (IsR_cel EncN.eW)
@[simp] theorem Is_kidsW {t : Wy} {m : List Wy} : Is (kidsW t) (whys m) ↔ t.kids = m :=
  Is_sl_iff2 (d := dW) (by decide) (fun x _ y => EncN.eW x y) (fun i hi j hj => by rw [eW_tr _ j hj]; exact subTr_get dW t i hi j) (fun i _ j _ => rfl)
@[simp] theorem Is_whys_kidsW {t : Wy} {m : List Wy} : Is (whys m) (kidsW t) ↔ m = t.kids :=
  Is_sl_iff2 (d := dW) (by decide) (fun x _ y => EncN.eW x y) (fun i _ j _ => rfl) (fun i hi j hj => by rw [eW_tr _ j hj]; exact subTr_get dW t i hi j)
@[simp] theorem Is_kidsW2 {t u : Wy} : Is (kidsW t) (kidsW u) ↔ t.kids = u.kids :=
  Is_sl_iff2 (d := dW) (by decide) (fun x _ y => EncN.eW x y) (fun i hi j hj => by rw [eW_tr _ j hj]; exact subTr_get dW t i hi j) (fun i hi j hj => by rw [eW_tr _ j hj]; exact subTr_get dW u i hi j)
def ePC (x : PC) (j : Nat) : AV := match j with
  | 0 => i64 x.1
  | 1 => i64 x.2.1
  | 2 => i64 x.2.2.1.1.1
  | 3 => i64 x.2.2.1.1.2.1
  | 4 => st x.2.2.1.1.2.2.1
  | 5 => terms x.2.2.1.1.2.2.2
  | 6 => whys x.2.2.1.2
  | 7 => ints x.2.2.2.1
  | 8 => st x.2.2.2.2.1.1
  | 9 => terms x.2.2.2.2.1.2
  | 10 => st x.2.2.2.2.2.1
  | _ => terms x.2.2.2.2.2.2
theorem EncN.ePC : EncN 12 ePC := fun x y => by
  constructor
  · intro h
    have h0 : Is (i64 x.1) (i64 y.1) := h 0 (by decide)
    have h1 : Is (i64 x.2.1) (i64 y.2.1) := h 1 (by decide)
    have h2 : Is (i64 x.2.2.1.1.1) (i64 y.2.2.1.1.1) := h 2 (by decide)
    have h3 : Is (i64 x.2.2.1.1.2.1) (i64 y.2.2.1.1.2.1) := h 3 (by decide)
    have h4 : Is (st x.2.2.1.1.2.2.1) (st y.2.2.1.1.2.2.1) := h 4 (by decide)
    have h5 : Is (terms x.2.2.1.1.2.2.2) (terms y.2.2.1.1.2.2.2) := h 5 (by decide)
    have h6 : Is (whys x.2.2.1.2) (whys y.2.2.1.2) := h 6 (by decide)
    have h7 : Is (ints x.2.2.2.1) (ints y.2.2.2.1) := h 7 (by decide)
    have h8 : Is (st x.2.2.2.2.1.1) (st y.2.2.2.2.1.1) := h 8 (by decide)
    have h9 : Is (terms x.2.2.2.2.1.2) (terms y.2.2.2.2.1.2) := h 9 (by decide)
    have h10 : Is (st x.2.2.2.2.2.1) (st y.2.2.2.2.2.1) := h 10 (by decide)
    have h11 : Is (terms x.2.2.2.2.2.2) (terms y.2.2.2.2.2.2) := h 11 (by decide)
    simp only [Is_i64, Is_u8, Is_bl, Is_st, Is_ints, Is_bools, Is_strs, Is_intss, Is_terms, Is_whys] at h0 h1 h2 h3 h4 h5 h6 h7 h8 h9 h10 h11
    grind
  · rintro rfl j hj
    match j, hj with
    | 0, _ => show Is (i64 x.1) (i64 x.1); simp
    | 1, _ => show Is (i64 x.2.1) (i64 x.2.1); simp
    | 2, _ => show Is (i64 x.2.2.1.1.1) (i64 x.2.2.1.1.1); simp
    | 3, _ => show Is (i64 x.2.2.1.1.2.1) (i64 x.2.2.1.1.2.1); simp
    | 4, _ => show Is (st x.2.2.1.1.2.2.1) (st x.2.2.1.1.2.2.1); simp
    | 5, _ => show Is (terms x.2.2.1.1.2.2.2) (terms x.2.2.1.1.2.2.2); simp
    | 6, _ => show Is (whys x.2.2.1.2) (whys x.2.2.1.2); simp
    | 7, _ => show Is (ints x.2.2.2.1) (ints x.2.2.2.1); simp
    | 8, _ => show Is (st x.2.2.2.2.1.1) (st x.2.2.2.2.1.1); simp
    | 9, _ => show Is (terms x.2.2.2.2.1.2) (terms x.2.2.2.2.1.2); simp
    | 10, _ => show Is (st x.2.2.2.2.2.1) (st x.2.2.2.2.2.1); simp
    | 11, _ => show Is (terms x.2.2.2.2.2.2) (terms x.2.2.2.2.2.2); simp
def subC (t : Cse) : Nat → Nat → AV := subTr 12 ePC t
def eC (t : Cse) (j : Nat) : AV := match j with
  | 0 => i64 t.val.1
  | 1 => i64 t.val.2.1
  | 2 => i64 t.val.2.2.1.1.1
  | 3 => i64 t.val.2.2.1.1.2.1
  | 4 => st t.val.2.2.1.1.2.2.1
  | 5 => terms t.val.2.2.1.1.2.2.2
  | 6 => whys t.val.2.2.1.2
  | 7 => ints t.val.2.2.2.1
  | 8 => st t.val.2.2.2.2.1.1
  | 9 => terms t.val.2.2.2.2.1.2
  | 10 => st t.val.2.2.2.2.2.1
  | 11 => terms t.val.2.2.2.2.2.2
  | _ => .sl t.kids.length 13 (subC t)
theorem eC_tr (t : Cse) : ∀ j, j < 13 → eC t j = eTr 12 ePC t j
  | 0, _ => (eTr_lt (k := 12) (e := ePC) (t := t) (j := 0) (by decide)).symm
  | 1, _ => (eTr_lt (k := 12) (e := ePC) (t := t) (j := 1) (by decide)).symm
  | 2, _ => (eTr_lt (k := 12) (e := ePC) (t := t) (j := 2) (by decide)).symm
  | 3, _ => (eTr_lt (k := 12) (e := ePC) (t := t) (j := 3) (by decide)).symm
  | 4, _ => (eTr_lt (k := 12) (e := ePC) (t := t) (j := 4) (by decide)).symm
  | 5, _ => (eTr_lt (k := 12) (e := ePC) (t := t) (j := 5) (by decide)).symm
  | 6, _ => (eTr_lt (k := 12) (e := ePC) (t := t) (j := 6) (by decide)).symm
  | 7, _ => (eTr_lt (k := 12) (e := ePC) (t := t) (j := 7) (by decide)).symm
  | 8, _ => (eTr_lt (k := 12) (e := ePC) (t := t) (j := 8) (by decide)).symm
  | 9, _ => (eTr_lt (k := 12) (e := ePC) (t := t) (j := 9) (by decide)).symm
  | 10, _ => (eTr_lt (k := 12) (e := ePC) (t := t) (j := 10) (by decide)).symm
  | 11, _ => (eTr_lt (k := 12) (e := ePC) (t := t) (j := 11) (by decide)).symm
  | 12, _ => (eTr_kids (k := 12) (e := ePC) (t := t)).symm
theorem EncN.eC : EncN 13 eC := fun x y => by
  rw [← EncN.tr EncN.ePC x y]
  exact ⟨fun h j hj => by rw [← eC_tr x j hj, ← eC_tr y j hj]; exact h j hj, fun h j hj => by rw [eC_tr x j hj, eC_tr y j hj]; exact h j hj⟩
def kidsC (t : Cse) : AV := .sl t.kids.length 13 (subC t)
def cC (l : List Cse) : Nat → Nat → AV := fun i j => eC (l.getD i dC) j
def cases (l : List Cse) : AV := .sl l.length 13 fun i j => eC (l.getD i dC) j
def arC (l : List Cse) : AObj := .arr l.length 13 fun i j => eC (l.getD i dC) j
theorem Enc.cases : Enc cases := Enc.sln (by decide) EncN.eC dC
@[simp] theorem Is_cases {x y : List Cse} : Is (cases x) (cases y) ↔ x = y := Enc.cases x y
@[simp] theorem IsO_cases {x y : List Cse} : IsO (arC x) (arC y) ↔ y = [] ∨ x = y := IsO_arn EncN.eC
@[simp] theorem IsO_cases0 {n : Nat} {c : Nat → Nat → AV} : IsO (.arr n 13 c) (arC []) := IsO_nil
@[simp] theorem cases_nil {q : Nat} {c : Nat → Nat → AV} {m : List Cse} : Is (.lit 0 q c) (cases m) ↔ m = [] := nil_sln
@[simp] theorem cases_nilA {m : List Cse} : Is nilA (cases m) ↔ m = [] := nil_sln
@[simp] theorem cases_join {l m : List Cse} : IsO (.arr (l.length + m.length) 13 (joinC l.length (cC l) (cC m))) (arC (l ++ m)) := IsO_join EncN.eC (IsR_cel EncN.eC)
@[simp] theorem cases_join0 {m : List Cse} {c : Nat → Nat → AV} : IsO (.arr (0 + m.length) 13 (joinC 0 c (cC m))) (arC m) := IsO_join0 EncN.eC (IsR_cel EncN.eC)
@[simp] theorem cases_join0' {m : List Cse} {c : Nat → Nat → AV} : IsO (.arr m.length 13 (joinC 0 c (cC m))) (arC m) := IsO_join0 EncN.eC (IsR_cel EncN.eC)
@[simp] theorem Is_kidsC {t : Cse} {m : List Cse} : Is (kidsC t) (cases m) ↔ t.kids = m :=
  Is_sl_iff2 (d := dC) (by decide) (fun x _ y => EncN.eC x y) (fun i hi j hj => by rw [eC_tr _ j hj]; exact subTr_get dC t i hi j) (fun i _ j _ => rfl)
@[simp] theorem Is_cases_kidsC {t : Cse} {m : List Cse} : Is (cases m) (kidsC t) ↔ m = t.kids :=
  Is_sl_iff2 (d := dC) (by decide) (fun x _ y => EncN.eC x y) (fun i _ j _ => rfl) (fun i hi j hj => by rw [eC_tr _ j hj]; exact subTr_get dC t i hi j)
@[simp] theorem Is_kidsC2 {t u : Cse} : Is (kidsC t) (kidsC u) ↔ t.kids = u.kids :=
  Is_sl_iff2 (d := dC) (by decide) (fun x _ y => EncN.eC x y) (fun i hi j hj => by rw [eC_tr _ j hj]; exact subTr_get dC t i hi j) (fun i hi j hj => by rw [eC_tr _ j hj]; exact subTr_get dC u i hi j)
def atomA (x : Atm) : AV := .agg [i64 x.1, st x.2.1.1, terms x.2.1.2, st x.2.2.1.1, terms x.2.2.1.2, terms x.2.2.2.1, ints x.2.2.2.2.1, i64 x.2.2.2.2.2.1, bl x.2.2.2.2.2.2]
def litA (x : Ltr) : AV := .agg [i64 x.1.1, st x.1.2.1.1, terms x.1.2.1.2, st x.1.2.2.1.1, terms x.1.2.2.1.2, terms x.1.2.2.2.1, ints x.1.2.2.2.2.1, i64 x.1.2.2.2.2.2.1, bl x.1.2.2.2.2.2.2, bl x.2]
def formA (x : FP) : AV := .agg [i64 x.1.1, i64 x.1.2.1.1, st x.1.2.1.2.1.1, terms x.1.2.1.2.1.2, st x.1.2.1.2.2.1.1, terms x.1.2.1.2.2.1.2, terms x.1.2.1.2.2.2.1, ints x.1.2.1.2.2.2.2.1, i64 x.1.2.1.2.2.2.2.2.1, bl x.1.2.1.2.2.2.2.2.2, bl x.1.2.2, forms x.2]
def whyA (x : WP) : AV := .agg [i64 x.1.1, i64 x.1.2.1, st x.1.2.2.1, terms x.1.2.2.2, whys x.2]
def caseA (x : CP) : AV := .agg [i64 x.1.1, i64 x.1.2.1, i64 x.1.2.2.1.1.1, i64 x.1.2.2.1.1.2.1, st x.1.2.2.1.1.2.2.1, terms x.1.2.2.1.1.2.2.2, whys x.1.2.2.1.2, ints x.1.2.2.2.1, st x.1.2.2.2.2.1.1, terms x.1.2.2.2.2.1.2, st x.1.2.2.2.2.2.1, terms x.1.2.2.2.2.2.2, cases x.2]
abbrev MlA (x : Atm) : Prop := MlT (.mk x.2.1.1 x.2.1.2) ∧ MlT (.mk x.2.2.1.1 x.2.2.1.2) ∧ (Ml x.2.2.2.1 ∧ ∀ t ∈ x.2.2.2.1, MlT t) ∧ Ml x.2.2.2.2.1
abbrev MlF (t : Frm) : Prop := AllTr (fun u => MlA u.val.2.1 ∧ Ml u.kids) t
abbrev MlW (t : Wy) : Prop := AllTr (fun u => MlT (.mk u.val.2.2.1 u.val.2.2.2) ∧ Ml u.kids) t
abbrev MlC (t : Cse) : Prop := AllTr (fun u => MlW (.mk u.val.2.2.1.1 u.val.2.2.1.2) ∧ Ml u.val.2.2.2.1 ∧ MlT (.mk u.val.2.2.2.2.1.1 u.val.2.2.2.2.1.2) ∧ MlT (.mk u.val.2.2.2.2.2.1 u.val.2.2.2.2.2.2) ∧ Ml u.kids) t
abbrev SmA (x : Atm) : Prop := costA x ≤ 1048576
abbrev SmTr {α : Type} (f : α → Nat) (t : Tree α) : Prop := costTr f t ≤ 1048576
abbrev SmTrs {α : Type} (f : α → Nat) (l : List (Tree α)) : Prop := l.length + costTrs f l ≤ 1048576
def K_szAtom : Nat × Contract := (Nm.laws_szAtom, .sc (Atm × Int) (fun x => [atomA x.1, i64 x.2]) (fun x => MlA x.1 ∧ Fu x.2) fun x => i64 (lim (x.2 - costA x.1)))
def K_szLit : Nat × Contract := (Nm.laws_szLit, .sc (Ltr × Int) (fun x => [litA x.1, i64 x.2]) (fun x => MlA x.1.1 ∧ Fu x.2) fun x => i64 (lim (x.2 - costL x.1)))
def K_toAtom : Nat × Contract := (Nm.laws_toAtom, .im Atm (fun x => [atomA x]) SmA atomA)
def K_toLit : Nat × Contract := (Nm.laws_toLit, .im Ltr (fun x => [litA x]) (fun x => SmA x.1) litA)
noncomputable def K_eqAtom : Nat × Contract := (Nm.laws_eqAtom, .sc (Atm × Atm) (fun x => [atomA x.1, atomA x.2]) (fun x => SmA x.1) fun x => bl (decide (x.1 = x.2)))
noncomputable def K_eqLit : Nat × Contract := (Nm.laws_eqLit, .sc (Ltr × Ltr) (fun x => [litA x.1, litA x.2]) (fun x => SmA x.1.1) fun x => bl (decide (x.1 = x.2)))
noncomputable def K_sTSame (n : Nat) : Nat × Contract := (Nm.spec_TermSame, .sc (TP × TP) (fun x => [termA x.1, termA x.2]) (fun x => SmT (.mk x.1.1 x.1.2) ∧ manyL x.1.2 < n) fun x => bl (decide (x.1 = x.2)))
noncomputable def K_iTSame (n : Nat) : Nat × Contract := (Nm.impl_TermSame, .sc (TP × TP) (fun x => [termA x.1, termA x.2]) (fun x => SmT (.mk x.1.1 x.1.2) ∧ manyL x.1.2 < n) fun x => bl (decide (x.1 = x.2)))
noncomputable def K_EqualT (n : Nat) : Nat × Contract := (Nm.slices_EqualFunc_Simpl_Term_Simpl_Term_impl_Term_impl_Term, .sc (List Tm × List Tm) (fun x => [terms x.1, terms x.2, .fn (.func Nm.impl_TermSame) []]) (fun x => SmTs x.1 ∧ manyL x.1 < n) fun x => bl (decide (x.1 = x.2)))
noncomputable def K_sTermSame : Nat × Contract := (Nm.spec_TermSame, .sc (TP × TP) (fun x => [termA x.1, termA x.2]) (fun x => SmT (.mk x.1.1 x.1.2)) fun x => bl (decide (x.1 = x.2)))
noncomputable def K_iTermSame : Nat × Contract := (Nm.impl_TermSame, .sc (TP × TP) (fun x => [termA x.1, termA x.2]) (fun x => SmT (.mk x.1.1 x.1.2)) fun x => bl (decide (x.1 = x.2)))
noncomputable def K_EqualTerms : Nat × Contract := (Nm.slices_EqualFunc_Simpl_Term_Simpl_Term_impl_Term_impl_Term, .sc (List Tm × List Tm) (fun x => [terms x.1, terms x.2, .fn (.func Nm.impl_TermSame) []]) (fun x => SmTs x.1) fun x => bl (decide (x.1 = x.2)))
noncomputable def K_sAtomSame : Nat × Contract := (Nm.spec_AtomSame, .sc (Atm × Atm) (fun x => [atomA x.1, atomA x.2]) (fun x => SmA x.1) fun x => bl (decide (x.1 = x.2)))
noncomputable def K_iAtomSame : Nat × Contract := (Nm.impl_AtomSame, .sc (Atm × Atm) (fun x => [atomA x.1, atomA x.2]) (fun x => SmA x.1) fun x => bl (decide (x.1 = x.2)))
def A_sTSame (a b : TP) : List Ann :=
  [.mk Nat (fun x => x ≤ a.2.length ∧ a.2.length = b.2.length ∧ a.1 = b.1 ∧ (a.2 = b.2 ↔ a.2.drop x = b.2.drop x)) (fun x => { fr := pad [.any, .any, .ptr 0 0, .ptr 1 0, .any, i64 x] 39, H := [.var [st a.1, terms a.2], .var [st b.1, terms b.2]] }) (fun x => a.2.length - x) (fun _ => [])]
def A_EqualT (l m : List Tm) : List Ann :=
  [.mk Nat (fun x => x ≤ l.length ∧ l.length = m.length ∧ (l = m ↔ l.drop x = m.drop x)) (fun x => { fr := pad [terms l, terms m, .fn (.func Nm.impl_TermSame) [], .any, .any, .any, .any, .any, .any, .any, .any, .any, .any, .any, .any, terms l, i64 l.length, i64 x] 32, H := [] }) (fun x => l.length - x) (fun _ => [])]
def A_sAtomSame (a b : Atm) : List Ann :=
  [.mk Nat (fun x => x ≤ a.2.2.2.1.length ∧ a.2.2.2.1.length = b.2.2.2.1.length ∧ (a = b ↔ a.2.2.2.2.1 = b.2.2.2.2.1 ∧ a.2.2.2.1.drop x = b.2.2.2.1.drop x) ∧ a.2.2.2.2.1.length = b.2.2.2.2.1.length) (fun x => { fr := pad [.any, .any, .ptr 0 0, .ptr 1 0, .any, i64 x] 97, H := [.var [i64 a.1, st a.2.1.1, terms a.2.1.2, st a.2.2.1.1, terms a.2.2.1.2, terms a.2.2.2.1, ints a.2.2.2.2.1, i64 a.2.2.2.2.2.1, bl a.2.2.2.2.2.2], .var [i64 b.1, st b.2.1.1, terms b.2.1.2, st b.2.2.1.1, terms b.2.2.1.2, terms b.2.2.2.1, ints b.2.2.2.2.1, i64 b.2.2.2.2.2.1, bl b.2.2.2.2.2.2]] }) (fun x => a.2.2.2.1.length - x) (fun _ => []),
   .mk Nat (fun x => x ≤ a.2.2.2.2.1.length ∧ a.2.2.2.2.1.length = b.2.2.2.2.1.length ∧ (a = b ↔ a.2.2.2.2.1.drop x = b.2.2.2.2.1.drop x)) (fun x => { fr := pad [.any, .any, .ptr 0 0, .ptr 1 0, .any, .any, i64 x] 97, H := [.var [i64 a.1, st a.2.1.1, terms a.2.1.2, st a.2.2.1.1, terms a.2.2.1.2, terms a.2.2.2.1, ints a.2.2.2.2.1, i64 a.2.2.2.2.2.1, bl a.2.2.2.2.2.2], .var [i64 b.1, st b.2.1.1, terms b.2.1.2, st b.2.2.1.1, terms b.2.2.1.2, terms b.2.2.2.1, ints b.2.2.2.2.1, i64 b.2.2.2.2.2.1, bl b.2.2.2.2.2.2]] }) (fun x => a.2.2.2.2.1.length - x) (fun _ => [])]
def A_szWhyS (l : List Wy) (k : Int) : List Ann :=
  [.mk Nat (fun x => x ≤ l.length ∧ 0 ≤ k - l.length - costTrs costPW (l.take x)) (fun x => { fr := pad [whys l, i64 (k - l.length - costTrs costPW (l.take x)), .any, .any, .any, i64 x] 27, H := [] }) (fun x => l.length - x) (fun _ => [])]
def A_toWhyS (l : List Wy) : List Ann :=
  [.mk (Nat × List Wy) (fun x => x.1 ≤ l.length ∧ x.2.length = l.length ∧ x.2.take x.1 = l.take x.1) (fun x => { fr := pad [whys l, .any, .any, .osl 0 0 x.2.length, i64 x.1] 23, H := [arW x.2] }) (fun x => l.length - x.1) (fun _ => [])]
def A_eqWhyS (l m : List Wy) : List Ann :=
  [.mk Nat (fun x => x ≤ l.length ∧ l.length = m.length ∧ (l = m ↔ l.drop x = m.drop x)) (fun x => { fr := pad [whys l, whys m, .any, .any, .any, i64 x] 27, H := [] }) (fun x => l.length - x) (fun _ => [])]
def A_sWhySame (a b : WP) : List Ann :=
  [.mk Nat (fun x => x ≤ a.2.length ∧ a.2.length = b.2.length ∧ a.1 = b.1 ∧ (a.2 = b.2 ↔ a.2.drop x = b.2.drop x)) (fun x => { fr := pad [.any, .any, .ptr 0 0, .ptr 1 0, .any, i64 x] 54, H := [.var [i64 a.1.1, i64 a.1.2.1, st a.1.2.2.1, terms a.1.2.2.2, whys a.2], .var [i64 b.1.1, i64 b.1.2.1, st b.1.2.2.1, terms b.1.2.2.2, whys b.2]] }) (fun x => a.2.length - x) (fun _ => [])]
def A_szFormS (l : List Frm) (k : Int) : List Ann :=
  [.mk Nat (fun x => x ≤ l.length ∧ 0 ≤ k - l.length - costTrs costPF (l.take x)) (fun x => { fr := pad [forms l, i64 (k - l.length - costTrs costPF (l.take x)), .any, .any, .any, i64 x] 27, H := [] }) (fun x => l.length - x) (fun _ => [])]
def A_toFormS (l : List Frm) : List Ann :=
  [.mk (Nat × List Frm) (fun x => x.1 ≤ l.length ∧ x.2.length = l.length ∧ x.2.take x.1 = l.take x.1) (fun x => { fr := pad [forms l, .any, .any, .osl 0 0 x.2.length, i64 x.1] 23, H := [arF x.2] }) (fun x => l.length - x.1) (fun _ => [])]
def A_eqFormS (l m : List Frm) : List Ann :=
  [.mk Nat (fun x => x ≤ l.length ∧ l.length = m.length ∧ (l = m ↔ l.drop x = m.drop x)) (fun x => { fr := pad [forms l, forms m, .any, .any, .any, i64 x] 27, H := [] }) (fun x => l.length - x) (fun _ => [])]
def A_sFormSame (a b : FP) : List Ann :=
  [.mk Nat (fun x => x ≤ a.2.length ∧ a.2.length = b.2.length ∧ a.1 = b.1 ∧ (a.2 = b.2 ↔ a.2.drop x = b.2.drop x)) (fun x => { fr := pad [.any, .any, .ptr 0 0, .ptr 1 0, .any, i64 x] 58, H := [.var [i64 a.1.1, i64 a.1.2.1.1, st a.1.2.1.2.1.1, terms a.1.2.1.2.1.2, st a.1.2.1.2.2.1.1, terms a.1.2.1.2.2.1.2, terms a.1.2.1.2.2.2.1, ints a.1.2.1.2.2.2.2.1, i64 a.1.2.1.2.2.2.2.2.1, bl a.1.2.1.2.2.2.2.2.2, bl a.1.2.2, forms a.2], .var [i64 b.1.1, i64 b.1.2.1.1, st b.1.2.1.2.1.1, terms b.1.2.1.2.1.2, st b.1.2.1.2.2.1.1, terms b.1.2.1.2.2.1.2, terms b.1.2.1.2.2.2.1, ints b.1.2.1.2.2.2.2.1, i64 b.1.2.1.2.2.2.2.2.1, bl b.1.2.1.2.2.2.2.2.2, bl b.1.2.2, forms b.2]] }) (fun x => a.2.length - x) (fun _ => [])]
def A_szCaseS (l : List Cse) (k : Int) : List Ann :=
  [.mk Nat (fun x => x ≤ l.length ∧ 0 ≤ k - l.length - costTrs costPC (l.take x)) (fun x => { fr := pad [cases l, i64 (k - l.length - costTrs costPC (l.take x)), .any, .any, .any, i64 x] 27, H := [] }) (fun x => l.length - x) (fun _ => [])]
def A_toCaseS (l : List Cse) : List Ann :=
  [.mk (Nat × List Cse) (fun x => x.1 ≤ l.length ∧ x.2.length = l.length ∧ x.2.take x.1 = l.take x.1) (fun x => { fr := pad [cases l, .any, .any, .osl 0 0 x.2.length, i64 x.1] 23, H := [arC x.2] }) (fun x => l.length - x.1) (fun _ => [])]
def A_eqCaseS (l m : List Cse) : List Ann :=
  [.mk Nat (fun x => x ≤ l.length ∧ l.length = m.length ∧ (l = m ↔ l.drop x = m.drop x)) (fun x => { fr := pad [cases l, cases m, .any, .any, .any, i64 x] 27, H := [] }) (fun x => l.length - x) (fun _ => [])]
def A_sCaseSame (a b : CP) : List Ann :=
  [.mk Nat (fun x => x ≤ a.2.length ∧ a.2.length = b.2.length ∧ a.1 = b.1 ∧ (a.2 = b.2 ↔ a.2.drop x = b.2.drop x)) (fun x => { fr := pad [.any, .any, .ptr 0 0, .ptr 1 0, .any, i64 x] 78, H := [.var [i64 a.1.1, i64 a.1.2.1, i64 a.1.2.2.1.1.1, i64 a.1.2.2.1.1.2.1, st a.1.2.2.1.1.2.2.1, terms a.1.2.2.1.1.2.2.2, whys a.1.2.2.1.2, ints a.1.2.2.2.1, st a.1.2.2.2.2.1.1, terms a.1.2.2.2.2.1.2, st a.1.2.2.2.2.2.1, terms a.1.2.2.2.2.2.2, cases a.2], .var [i64 b.1.1, i64 b.1.2.1, i64 b.1.2.2.1.1.1, i64 b.1.2.2.1.1.2.1, st b.1.2.2.1.1.2.2.1, terms b.1.2.2.1.1.2.2.2, whys b.1.2.2.1.2, ints b.1.2.2.2.1, st b.1.2.2.2.2.1.1, terms b.1.2.2.2.2.1.2, st b.1.2.2.2.2.2.1, terms b.1.2.2.2.2.2.2, cases b.2]] }) (fun x => a.2.length - x) (fun _ => [])]
end Cg

/-
  Models: how they lie in cells; sizes, copies, equality. No condition.
-/
set_option linter.unusedVariables false
set_option linter.unusedSimpArgs false
namespace Pl
abbrev Rt := Int × Int
abbrev Rw := ByteArray × List Rt × Rt
abbrev Mdl := List Rw
noncomputable instance instRw : DecidableEq Rw := fun a b => Classical.propDecidable (a = b)
def dQ : Rt := (0, 0)
def dR : Rw := (ByteArray.empty, [], 0, 0)
def costR (x : Rw) : Nat := x.1.size + x.2.1.length
def costM (m : Mdl) : Nat := m.length + sumN costR m
end Pl
namespace Cg
open Go Pl
def eQ (x : Rt) (j : Nat) : AV := match j with
  | 0 => i64 x.1
  | _ => i64 x.2
theorem EncN.eQ : EncN 2 eQ := fun x y => by
  constructor
  · intro h
    have h0 : Is (i64 x.1) (i64 y.1) := h 0 (by decide)
    have h1 : Is (i64 x.2) (i64 y.2) := h 1 (by decide)
    simp only [Is_i64, Is_u8, Is_bl, Is_st, Is_ints, Is_bools, Is_strs, Is_intss] at h0 h1
    grind
  · rintro rfl j hj
    match j, hj with
    | 0, _ => show Is (i64 x.1) (i64 x.1); simp
    | 1, _ => show Is (i64 x.2) (i64 x.2); simp
def cQ (l : List Rt) : Nat → Nat → AV := fun i j => eQ (l.getD i dQ) j
def rats (l : List Rt) : AV := .sl l.length 2 fun i j => eQ (l.getD i dQ) j
def arQ (l : List Rt) : AObj := .arr l.length 2 fun i j => eQ (l.getD i dQ) j
theorem Enc.rats : Enc rats := Enc.sln (by decide) EncN.eQ dQ
@[simp] theorem Is_rats {x y : List Rt} : Is (rats x) (rats y) ↔ x = y := Enc.rats x y
@[simp] theorem IsO_rats {x y : List Rt} : IsO (arQ x) (arQ y) ↔ y = [] ∨ x = y := IsO_arn EncN.eQ
@[simp] theorem IsO_rats0 {n : Nat} {c : Nat → Nat → AV} : IsO (.arr n 2 c) (arQ []) := IsO_nil
@[simp] theorem rats_nil {q : Nat} {c : Nat → Nat → AV} {m : List Rt} : Is (.lit 0 q c) (rats m) ↔ m = [] := nil_sln
@[simp] theorem rats_nilA {m : List Rt} : Is nilA (rats m) ↔ m = [] := nil_sln
@[simp] theorem rats_join {l m : List Rt} : IsO (.arr (l.length + m.length) 2 (joinC l.length (cQ l) (cQ m))) (arQ (l ++ m)) := IsO_join EncN.eQ (IsR_cel EncN.eQ)
@[simp] theorem rats_join0 {m : List Rt} {c : Nat → Nat → AV} : IsO (.arr (0 + m.length) 2 (joinC 0 c (cQ m))) (arQ m) := IsO_join0 EncN.eQ (IsR_cel EncN.eQ)
@[simp] theorem rats_join0' {m : List Rt} {c : Nat → Nat → AV} : IsO (.arr m.length 2 (joinC 0 c (cQ m))) (arQ m) := IsO_join0 EncN.eQ (IsR_cel EncN.eQ)
def eR (x : Rw) (j : Nat) : AV := match j with
  | 0 => st x.1
  | 1 => rats x.2.1
  | 2 => i64 x.2.2.1
  | _ => i64 x.2.2.2
theorem EncN.eR : EncN 4 eR := fun x y => by
  constructor
  · intro h
    have h0 : Is (st x.1) (st y.1) := h 0 (by decide)
    have h1 : Is (rats x.2.1) (rats y.2.1) := h 1 (by decide)
    have h2 : Is (i64 x.2.2.1) (i64 y.2.2.1) := h 2 (by decide)
    have h3 : Is (i64 x.2.2.2) (i64 y.2.2.2) := h 3 (by decide)
    simp only [Is_i64, Is_u8, Is_bl, Is_st, Is_ints, Is_bools, Is_strs, Is_intss, Is_rats] at h0 h1 h2 h3
    grind
  · rintro rfl j hj
    match j, hj with
    | 0, _ => show Is (st x.1) (st x.1); simp
    | 1, _ => show Is (rats x.2.1) (rats x.2.1); simp
    | 2, _ => show Is (i64 x.2.2.1) (i64 x.2.2.1); simp
    | 3, _ => show Is (i64 x.2.2.2) (i64 x.2.2.2); simp
def cR (l : List Rw) : Nat → Nat → AV := fun i j => eR (l.getD i dR) j
def mrows (l : List Rw) : AV := .sl l.length 4 fun i j => eR (l.getD i dR) j
def arR (l : List Rw) : AObj := .arr l.length 4 fun i j => eR (l.getD i dR) j
theorem Enc.mrows : Enc mrows := Enc.sln (by decide) EncN.eR dR
@[simp] theorem Is_mrows {x y : List Rw} : Is (mrows x) (mrows y) ↔ x = y := Enc.mrows x y
@[simp] theorem IsO_mrows {x y : List Rw} : IsO (arR x) (arR y) ↔ y = [] ∨ x = y := IsO_arn EncN.eR
@[simp] theorem IsO_mrows0 {n : Nat} {c : Nat → Nat → AV} : IsO (.arr n 4 c) (arR []) := IsO_nil
@[simp] theorem mrows_nil {q : Nat} {c : Nat → Nat → AV} {m : List Rw} : Is (.lit 0 q c) (mrows m) ↔ m = [] := nil_sln
@[simp] theorem mrows_nilA {m : List Rw} : Is nilA (mrows m) ↔ m = [] := nil_sln
@[simp] theorem mrows_join {l m : List Rw} : IsO (.arr (l.length + m.length) 4 (joinC l.length (cR l) (cR m))) (arR (l ++ m)) := IsO_join EncN.eR (IsR_cel EncN.eR)
@[simp] theorem mrows_join0 {m : List Rw} {c : Nat → Nat → AV} : IsO (.arr (0 + m.length) 4 (joinC 0 c (cR m))) (arR m) := IsO_join0 EncN.eR (IsR_cel EncN.eR)
@[simp] theorem mrows_join0' {m : List Rw} {c : Nat → Nat → AV} : IsO (.arr m.length 4 (joinC 0 c (cR m))) (arR m) := IsO_join0 EncN.eR (IsR_cel EncN.eR)
theorem Is_rowQ {a b : Int} : ∀ j, j < 2 → Is ([i64 a, i64 b].getD j .any) (eQ (a, b) j) := fun j hj => by
  match j, hj with
  | 0, _ => exact (Enc.i64 a a).2 rfl
  | 1, _ => exact (Enc.i64 b b).2 rfl
@[simp] theorem rats_set {l : List Rt} {i : Nat} {a b : Int} : IsO (.arr l.length 2 (storeC (cQ l) i 0 [i64 a, i64 b])) (arQ (l.set i (a, b))) := IsO_set EncN.eQ rfl Is_rowQ
@[simp] theorem rats_make {n : Nat} : IsO (.arr n 2 (fun _ j => [i64 0, i64 0].getD j .any)) (arQ (List.replicate n dQ)) := IsO_make EncN.eQ Is_rowQ
theorem rats_row (a b : Int) : IsR 2 eQ dQ (rowsCell [[i64 a, i64 b]]) [(a, b)] := IsR_row EncN.eQ Is_rowQ
@[simp] theorem rats_push {l : List Rt} {a b : Int} : IsO (.arr (l.length + 1) 2 (joinC l.length (cQ l) (rowsCell [[i64 a, i64 b]]))) (arQ (l ++ [(a, b)])) := IsO_join EncN.eQ (rats_row a b)
@[simp] theorem rats_push0 {a b : Int} {c : Nat → Nat → AV} : IsO (.arr (0 + 1) 2 (joinC 0 c (rowsCell [[i64 a, i64 b]]))) (arQ [(a, b)]) := IsO_join0 EncN.eQ (rats_row a b)
@[simp] theorem rats_push1 {a b : Int} {c : Nat → Nat → AV} : IsO (.arr 1 2 (joinC 0 c (rowsCell [[i64 a, i64 b]]))) (arQ [(a, b)]) := IsO_join0 EncN.eQ (rats_row a b)
theorem Is_rowR {a : ByteArray} {l : List Rt} {c d : Int} {b : AV} (hb : Is b (rats l)) : ∀ j, j < 4 → Is ([st a, b, i64 c, i64 d].getD j .any) (eR (a, l, c, d) j) := fun j hj => by
  match j, hj with
  | 0, _ => exact (Enc.st a a).2 rfl
  | 1, _ => exact hb
  | 2, _ => exact (Enc.i64 c c).2 rfl
  | 3, _ => exact (Enc.i64 d d).2 rfl
@[simp] theorem mrows_set {l : List Rw} {i : Nat} {a : ByteArray} {b : List Rt} {c d : Int} : IsO (.arr l.length 4 (storeC (cR l) i 0 [st a, rats b, i64 c, i64 d])) (arR (l.set i (a, b, c, d))) := IsO_set EncN.eR rfl (Is_rowR ((Enc.rats b b).2 rfl))
@[simp] theorem mrows_make {n : Nat} : IsO (.arr n 4 (fun _ j => [st ByteArray.empty, nilA, i64 0, i64 0].getD j .any)) (arR (List.replicate n dR)) := IsO_make EncN.eR (Is_rowR (rats_nilA.2 rfl))
def ratA (x : Rt) : AV := .agg [i64 x.1, i64 x.2]
def rowA (x : Rw) : AV := .agg [st x.1, rats x.2.1, i64 x.2.2.1, i64 x.2.2.2]
def modelA (m : Mdl) : AV := .agg [mrows m]
abbrev MlR (x : Rw) : Prop := x.1.size ≤ 9223372036854775807 ∧ x.2.1.length ≤ 9223372036854775807
abbrev MlM (m : Mdl) : Prop := m.length ≤ 9223372036854775807 ∧ ∀ x ∈ m, MlR x
abbrev SmM (m : Mdl) : Prop := costM m ≤ 1048576
def K_szRatS : Nat × Contract := (Nm.laws_szRatS, .sc (List Rt × Int) (fun x => [rats x.1, i64 x.2]) (fun x => Ml x.1 ∧ Fu x.2) fun x => i64 (lim (x.2 - x.1.length)))
def K_szRow : Nat × Contract := (Nm.laws_szRow, .sc (Rw × Int) (fun x => [rowA x.1, i64 x.2]) (fun x => MlR x.1 ∧ Fu x.2) fun x => i64 (lim (x.2 - costR x.1)))
def K_szRowS : Nat × Contract := (Nm.laws_szRowS, .sc (Mdl × Int) (fun x => [mrows x.1, i64 x.2]) (fun x => MlM x.1 ∧ Fu x.2) fun x => i64 (lim (x.2 - costM x.1)))
def K_szModel : Nat × Contract := (Nm.laws_szModel, .sc (Mdl × Int) (fun x => [modelA x.1, i64 x.2]) (fun x => MlM x.1 ∧ Fu x.2) fun x => i64 (lim (x.2 - costM x.1)))
def K_toRat : Nat × Contract := (Nm.laws_toRat, .sc Rt (fun x => [ratA x]) (fun _ => True) ratA)
def K_toRatS : Nat × Contract := (Nm.laws_toRatS, .im (List Rt) (fun x => [rats x]) Sz rats)
def K_toRow : Nat × Contract := (Nm.laws_toRow, .im Rw (fun x => [rowA x]) (fun x => Sz x.2.1) rowA)
def K_toRowS : Nat × Contract := (Nm.laws_toRowS, .im Mdl (fun x => [mrows x]) SmM mrows)
def K_toModel : Nat × Contract := (Nm.laws_toModel, .im Mdl (fun x => [modelA x]) SmM modelA)
def K_eqRat : Nat × Contract := (Nm.laws_eqRat, .sc (Rt × Rt) (fun x => [ratA x.1, ratA x.2]) (fun _ => True) fun x => bl (decide (x.1 = x.2)))
def K_eqRatS : Nat × Contract := (Nm.laws_eqRatS, .sc (List Rt × List Rt) (fun x => [rats x.1, rats x.2]) (fun x => Sz x.1) fun x => bl (decide (x.1 = x.2)))
noncomputable def K_eqRow : Nat × Contract := (Nm.laws_eqRow, .sc (Rw × Rw) (fun x => [rowA x.1, rowA x.2]) (fun x => Sz x.1.2.1) fun x => bl (decide (x.1 = x.2)))
noncomputable def K_eqRowS : Nat × Contract := (Nm.laws_eqRowS, .sc (Mdl × Mdl) (fun x => [mrows x.1, mrows x.2]) (fun x => SmM x.1) fun x => bl (decide (x.1 = x.2)))
noncomputable def K_eqModel : Nat × Contract := (Nm.laws_eqModel, .sc (Mdl × Mdl) (fun x => [modelA x.1, modelA x.2]) (fun x => SmM x.1) fun x => bl (decide (x.1 = x.2)))
def A_szRowS (l : Mdl) (k : Int) : List Ann :=
  [.mk Nat (fun x => x ≤ l.length ∧ 0 ≤ k - l.length - sumN costR (l.take x)) (fun x => { fr := pad [mrows l, i64 (k - l.length - sumN costR (l.take x)), .any, .any, .any, i64 x] 27, H := [] }) (fun x => l.length - x) (fun _ => [])]
def A_toRatS (l : List Rt) : List Ann :=
  [.mk (Nat × List Rt) (fun x => x.1 ≤ l.length ∧ x.2.length = l.length ∧ x.2.take x.1 = l.take x.1) (fun x => { fr := pad [rats l, .any, .any, .osl 0 0 x.2.length, i64 x.1] 23, H := [arQ x.2] }) (fun x => l.length - x.1) (fun _ => [])]
def A_toRowS (l : Mdl) : List Ann :=
  [.mk (Nat × Mdl) (fun x => x.1 ≤ l.length ∧ x.2.length = l.length ∧ x.2.take x.1 = l.take x.1) (fun x => { fr := pad [mrows l, .any, .any, .osl 0 0 x.2.length, i64 x.1] 23, H := [arR x.2] }) (fun x => l.length - x.1) (fun _ => [])]
def A_eqRatS (l m : List Rt) : List Ann :=
  [.mk Nat (fun x => x ≤ l.length ∧ l.length = m.length ∧ (l = m ↔ l.drop x = m.drop x)) (fun x => { fr := pad [rats l, rats m, .any, .any, .any, i64 x] 27, H := [] }) (fun x => l.length - x) (fun _ => [])]
def A_eqRowS (l m : Mdl) : List Ann :=
  [.mk Nat (fun x => x ≤ l.length ∧ l.length = m.length ∧ (l = m ↔ l.drop x = m.drop x)) (fun x => { fr := pad [mrows l, mrows m, .any, .any, .any, i64 x] 27, H := [] }) (fun x => l.length - x) (fun _ => [])]
def A_l7Rats (l m : List Rt) : List Ann :=
  [.mk Nat (fun x => x ≤ l.length ∧ l.length = m.length ∧ (l = m ↔ l.drop x = m.drop x)) (fun x => { fr := pad [rats l, rats m, .any, .any, .any, i64 x] 26, H := [] }) (fun x => l.length - x) (fun _ => [])]
def A_EqualRats (l m : List Rt) : List Ann :=
  [.mk Nat (fun x => x ≤ l.length ∧ l.length = m.length ∧ (l = m ↔ l.drop x = m.drop x)) (fun x => { fr := pad [rats l, rats m, .any, .any, .any, .any, .any, .any, .any, .any, .any, rats l, i64 l.length, i64 x] 26, H := [] }) (fun x => l.length - x) (fun _ => [])]
def A_sModelSame (l m : Mdl) : List Ann :=
  [.mk Nat (fun x => x ≤ l.length ∧ l.length = m.length ∧ (l = m ↔ l.drop x = m.drop x)) (fun x => { fr := pad [.any, .any, .ptr 0 0, .ptr 1 0, .any, i64 x] 64, H := [.var [mrows l], .var [mrows m]] }) (fun x => l.length - x) (fun _ => [])]
end Cg

/-
  Plain functions, and what is known of the codes' callees and loops: valid models. No condition.
-/
namespace Pl
open Go
def abs1 (n : Int) : Int := if n < -1000000000 ∨ n > 1000000000 then 1000000001 else if n < 0 then -n else n
def ratOk (x : Rt) : Bool := decide (-1000000000 ≤ x.1) && decide (x.1 ≤ 1000000000) && (decide (1 ≤ x.2) && decide (x.2 ≤ 1000000000)) && decide (Nat.gcd x.1.natAbs x.2.natAbs = 1)
def ratLess (a b : Rt) : Bool := ratOk a && ratOk b && decide (a.1 * b.2 < b.1 * a.2)
def cmpRat (a b : Rt) : Int := if ratLess a b = true then -1 else if ratLess b a = true then 1 else 0
def rowOk (x : Rw) : Bool := nameOk x.1 && decide (x.2.1.length ≤ 2) && ratOk x.2.2 && x.2.1.all ratOk
def argsLess : List Rt → List Rt → Bool
  | x :: xs, y :: ys => if x = y then argsLess xs ys else ratLess x y
  | _, _ => false
def rowLess (a b : Rw) : Bool := if a.1 = b.1 then (if a.2.1.length = b.2.1.length then argsLess a.2.1 b.2.1 else decide (a.2.1.length < b.2.1.length)) else sLess a.1 b.1
def cmpArgs : List Rt → List Rt → Int
  | [], [] => 0
  | [], _ :: _ => -1
  | _ :: _, [] => 1
  | x :: xs, y :: ys => if cmpRat x y = 0 then cmpArgs xs ys else cmpRat x y
def cmpS (a b : ByteArray) : Int := if sLess a b = true then -1 else if sLess b a = true then 1 else 0
def cmpI (a b : Int) : Int := if a < b then -1 else if a > b then 1 else 0
def orI : List Int → Int
  | [] => 0
  | x :: xs => if x = 0 then orI xs else x
def cmpRows (a b : Rw) : Int := orI [cmpS a.1 b.1, cmpI a.2.1.length b.2.1.length, cmpArgs a.2.1 b.2.1]
def beforeR (p : Option Rw) (x : Rw) : Bool := match p with
  | none => true
  | some q => rowLess q x
def mL : Option Rw → List Rw → Bool
  | _, [] => true
  | p, x :: xs => rowOk x && beforeR p x && mL (some x) xs
def prevR (m : Mdl) (k : Nat) : Option Rw := if k = 0 then none else some (m.getD (k - 1) dR)
def mRight (m : Mdl) : Bool := mL none m && decide (m.length ≤ 40)
def suit (a : Rt) (n : Int) : Bool := decide (n = 1) || decide (a.2 = 1)
def fit (a : Rt) (n : Int) : Bool := ratOk a && suit a n
def fitL : List Rt → List Int → Bool
  | a :: qs, n :: ns => fit a n && fitL qs ns
  | _, _ => true
def rowFits (s : Sig) (r : Rw) : Bool := (find s r.1).isSome && decide ((symOf s r.1).2.1.length = r.2.1.length) && fit r.2.2 (symOf s r.1).2.2 && fitL r.2.1 (symOf s r.1).2.1
def modelOk (s : Sig) (m : Mdl) : Bool := sigOk s && mRight m && m.all (rowFits s)
end Pl
namespace Cg
open Go Pl
def K_l1Abs : Nat × Contract := (Nm.spec_l1Abs, .sc Int (fun x => [i64 x]) (fun _ => True) fun x => i64 (abs1 x))
def K_l1Gcd : Nat × Contract := (Nm.spec_l1Gcd, .sc (Nat × Nat) (fun x => [i64 x.1, i64 x.2]) (fun x => x.1 ≤ 4611686018427387904 ∧ x.2 ≤ 4611686018427387904) fun x => i64 (Nat.gcd x.1 x.2))
def K_gcd : Nat × Contract := (Nm.impl_gcd, .sc (Int × Int) (fun x => [i64 x.1, i64 x.2]) (fun x => x.1.natAbs ≤ 4611686018427387904 ∧ x.2.natAbs ≤ 4611686018427387904) fun x => i64 (Nat.gcd x.1.natAbs x.2.natAbs))
def K_sRatOk : Nat × Contract := (Nm.spec_RatOk, .sc Rt (fun x => [ratA x]) (fun _ => True) fun x => bl (ratOk x))
def K_iRatOk : Nat × Contract := (Nm.impl_RatOk, .sc Rt (fun x => [ratA x]) (fun _ => True) fun x => bl (ratOk x))
def K_sRatLess : Nat × Contract := (Nm.spec_RatLess, .sc (Rt × Rt) (fun x => [ratA x.1, ratA x.2]) (fun _ => True) fun x => bl (ratLess x.1 x.2))
def K_iRatLess : Nat × Contract := (Nm.impl_RatLess, .sc (Rt × Rt) (fun x => [ratA x.1, ratA x.2]) (fun _ => True) fun x => bl (ratLess x.1 x.2))
def K_compareRats : Nat × Contract := (Nm.impl_compareRats, .sc (Rt × Rt) (fun x => [ratA x.1, ratA x.2]) (fun _ => True) fun x => i64 (cmpRat x.1 x.2))
def K_l7Row : Nat × Contract := (Nm.spec_l7Row, .sc Rw (fun x => [rowA x]) (fun x => x.1.size ≤ 1048576 ∧ x.2.1.length ≤ 1048576) fun x => bl (rowOk x))
def K_l7Less : Nat × Contract := (Nm.spec_l7Less, .sc (Rw × Rw) (fun x => [rowA x.1, rowA x.2]) (fun x => x.1.2.1.length ≤ 1048576) fun x => bl (rowLess x.1 x.2))
def K_l7Right : Nat × Contract := (Nm.spec_l7Right, .sc Mdl (fun x => [modelA x]) SmM fun x => bl (mRight x))
def K_RowOk1 : Nat × Contract := (Nm.impl_Row_ok_1, .sc Rt (fun x => [ratA x]) (fun _ => True) fun x => bl (!ratOk x))
def K_IndexRat : Nat × Contract := (Nm.slices_IndexFunc_Simpl_Rat_impl_Rat, .sc (List Rt) (fun x => [rats x, .fn (.func Nm.impl_Row_ok_1) []]) (fun x => Sz x) fun x => i64 (idx (fun y => !ratOk y) x))
def K_ContainsRat : Nat × Contract := (Nm.slices_ContainsFunc_Simpl_Rat_impl_Rat, .sc (List Rt) (fun x => [rats x, .fn (.func Nm.impl_Row_ok_1) []]) (fun x => Sz x) fun x => bl (x.any fun y => !ratOk y))
def K_rowOk : Nat × Contract := (Nm.impl_Row_ok, .sc Rw (fun x => [rowA x]) (fun x => x.1.size ≤ 1048576 ∧ x.2.1.length ≤ 1048576) fun x => bl (rowOk x))
def K_isNaNS : Nat × Contract := (Nm.cmp_isNaN_string, .sc ByteArray (fun x => [st x]) (fun _ => True) fun _ => bl false)
def K_isNaNI : Nat × Contract := (Nm.cmp_isNaN_int, .sc Int (fun x => [i64 x]) (fun _ => True) fun _ => bl false)
def K_CompareS : Nat × Contract := (Nm.cmp_Compare_string, .sc (ByteArray × ByteArray) (fun x => [st x.1, st x.2]) (fun _ => True) fun x => i64 (cmpS x.1 x.2))
def K_CompareI : Nat × Contract := (Nm.cmp_Compare_int, .sc (Int × Int) (fun x => [i64 x.1, i64 x.2]) (fun _ => True) fun x => i64 (cmpI x.1 x.2))
def K_Or : Nat × Contract := (Nm.cmp_Or_int, .sc (List Int) (fun x => [ints x]) Sz fun x => i64 (orI x))
def K_CompareFunc : Nat × Contract := (Nm.slices_CompareFunc_Simpl_Rat_Simpl_Rat_impl_Rat_impl_Rat, .sc (List Rt × List Rt) (fun x => [rats x.1, rats x.2, .fn (.func Nm.impl_compareRats) []]) (fun x => Sz x.1 ∧ Sz x.2) fun x => i64 (cmpArgs x.1 x.2))
def K_compareRows : Nat × Contract := (Nm.impl_compareRows, .sc (Rw × Rw) (fun x => [rowA x.1, rowA x.2]) (fun x => Sz x.1.2.1 ∧ Sz x.2.2.1) fun x => i64 (cmpRows x.1 x.2))
def K_iModel : Nat × Contract := (Nm.impl_Model_ok, .sc Mdl (fun x => [modelA x]) SmM fun x => bl (mRight x))
def A_l1Gcd (a b : Nat) : List Ann :=
  [.mk (Nat × Nat) (fun x => x.1 ≤ 4611686018427387904 ∧ x.2 ≤ 4611686018427387904 ∧ Nat.gcd x.1 x.2 = Nat.gcd a b) (fun x => { fr := pad [i64 x.1, i64 x.2] 12, H := [] }) (fun x => x.2) (fun _ => [])]
def A_gcd (a b : Int) : List Ann :=
  [.mk (Nat × Nat) (fun x => x.1 ≤ 4611686018427387904 ∧ x.2 ≤ 4611686018427387904 ∧ Nat.gcd x.1 x.2 = Nat.gcd a.natAbs b.natAbs) (fun x => { fr := pad [i64 x.1, i64 x.2] 20, H := [] }) (fun x => x.2) (fun _ => [])]
def A_l7Row (r : Rw) : List Ann :=
  [.mk Nat (fun x => x ≤ r.2.1.length ∧ r.2.1.all ratOk = (r.2.1.drop x).all ratOk) (fun x => { fr := pad [.any, .ptr 0 0, .any, i64 x] 32, H := [.var [st r.1, rats r.2.1, i64 r.2.2.1, i64 r.2.2.2]] }) (fun x => r.2.1.length - x) (fun _ => [])]
def A_l7Less (a b : Rw) : List Ann :=
  [.mk Nat (fun x => x ≤ a.2.1.length ∧ a.2.1.length = b.2.1.length ∧ rowLess a b = argsLess (a.2.1.drop x) (b.2.1.drop x)) (fun x => { fr := pad [.any, .any, .ptr 0 0, .ptr 1 0, .any, i64 x] 59, H := [.var [st a.1, rats a.2.1, i64 a.2.2.1, i64 a.2.2.2], .var [st b.1, rats b.2.1, i64 b.2.2.1, i64 b.2.2.2]] }) (fun x => a.2.1.length - x) (fun _ => [])]
def A_l7Right (m : Mdl) : List Ann :=
  [.mk Nat (fun x => x ≤ m.length ∧ mL none m = mL (prevR m x) (m.drop x)) (fun x => { fr := pad [.any, .ptr 0 0, .any, i64 x] 41, H := [.var [mrows m]] }) (fun x => m.length - x) (fun _ => [])]
def A_sModelOk (s : Sig) (m : Mdl) : List Ann :=
  [.mk Nat (fun x => x ≤ m.length ∧ modelOk s m = (m.drop x).all (rowFits s)) (fun x => { fr := pad [.any, .any, .ptr 0 0, .ptr 1 0, .any, i64 x] 85, H := [.var [syms s], .var [mrows m]] }) (fun x => m.length - x)
    (fun x => [.mk Nat (fun j => x < m.length ∧ j ≤ (m.getD x dR).2.1.length ∧ (symOf s (m.getD x dR).1).2.1.length = (m.getD x dR).2.1.length ∧ rowFits s (m.getD x dR) = fitL ((m.getD x dR).2.1.drop j) ((symOf s (m.getD x dR).1).2.1.drop j))
      (fun j => { fr := pad [.any, .any, .ptr 0 0, .ptr 1 0, .any, i64 x, .ptr 2 0, .any, i64 j] 85, H := [.var [syms s], .var [mrows m], .var [st (symOf s (m.getD x dR).1).1, ints (symOf s (m.getD x dR).1).2.1, i64 (symOf s (m.getD x dR).1).2.2]] }) (fun j => (m.getD x dR).2.1.length - j) (fun _ => [])])]
def A_IndexRat (l : List Rt) : List Ann :=
  [.mk Nat (fun x => x ≤ l.length ∧ idx (fun y => !ratOk y) l = if idx (fun y => !ratOk y) (l.drop x) < 0 then -1 else idx (fun y => !ratOk y) (l.drop x) + x)
    (fun x => { fr := pad [rats l, .fn (.func Nm.impl_Row_ok_1) [], .any, .any, .any, .any, .any, i64 l.length, i64 x] 19, H := [] }) (fun x => l.length - x) (fun _ => [])]
def A_Or (l : List Int) : List Ann :=
  [.mk Nat (fun x => x ≤ l.length ∧ orI l = orI (l.drop x)) (fun x => { fr := pad [.any, .any, .any, i64 0, .any, .any, ints l, i64 l.length, i64 x] 18, H := [] }) (fun x => l.length - x) (fun _ => [])]
def A_CompareFunc (l m : List Rt) : List Ann :=
  [.mk Nat (fun x => x ≤ l.length ∧ x ≤ m.length ∧ cmpArgs l m = cmpArgs (l.drop x) (m.drop x))
    (fun x => { fr := pad [rats l, rats m, .fn (.func Nm.impl_compareRats) [], .any, .any, .any, .any, .any, .any, .any, .any, rats l, i64 l.length, i64 x] 39, H := [] }) (fun x => l.length - x) (fun _ => [])]
def A_iModel (m : Mdl) : List Ann :=
  [.mk Nat (fun x => x ≤ m.length ∧ mL none m = mL (prevR m x) (m.drop x) ∧ (x ≠ 0 → rowOk (m.getD (x - 1) dR) = true)) (fun x => { fr := pad [.any, .ptr 0 0, .any, .any, .any, .any, .any, .any, .any, .any, mrows m, i64 m.length, i64 x] 36, H := [.var [mrows m]] }) (fun x => m.length - x) (fun _ => [])]
def A_iModelOk (s : Sig) (m : Mdl) : List Ann :=
  [.mk Nat (fun x => x ≤ m.length ∧ modelOk s m = (m.drop x).all (rowFits s) ∧ mL none m = true) (fun x => { fr := pad [.any, .any, .ptr 0 0, .ptr 1 0, .any, .any, .any, .any, .any, .any, .any, .any, .any, .any, .any, .any, .any, .any, .any, .any, mrows m, i64 m.length, i64 x] 70, H := [.var [syms s], .var [mrows m]] }) (fun x => m.length - x)
    (fun x => [.mk Nat (fun j => x < m.length ∧ j ≤ (m.getD x dR).2.1.length ∧ (symOf s (m.getD x dR).1).2.1.length = (m.getD x dR).2.1.length ∧ rowFits s (m.getD x dR) = fitL ((m.getD x dR).2.1.drop j) ((symOf s (m.getD x dR).1).2.1.drop j))
      (fun j => { fr := pad ([.any, .any, .ptr 0 0, .ptr 1 0, .any, .any, .any, .ptr 2 0, .any, .any, .any, .any, .any, .any, .any, .any, .any, .any, .any, .any, mrows m, i64 m.length, i64 x] ++ List.replicate 30 .any ++ [rats (m.getD x dR).2.1, i64 (m.getD x dR).2.1.length, i64 j]) 70, H := [.var [syms s], .var [mrows m], .var [st (symOf s (m.getD x dR).1).1, ints (symOf s (m.getD x dR).1).2.1, i64 (symOf s (m.getD x dR).1).2.2]] }) (fun j => (m.getD x dR).2.1.length - j) (fun _ => [])])]
end Cg

/-
  Plain functions, and what is known of the codes' callees and loops: the values of terms. No condition.
-/
namespace Pl
open Go
def look (m : Mdl) (nm : ByteArray) (args : List Rt) : Rt := match m.find? fun r => decide (r.1 = nm) && decide (r.2.1 = args) with
  | some r => r.2.2
  | none => (0, 1)
mutual
def valT (m : Mdl) : Tm → Rt
  | .mk v ks => look m v (valL m ks)
def valL (m : Mdl) : List Tm → List Rt
  | [] => []
  | t :: ts => valT m t :: valL m ts
end
def bsF (c : Nat → Bool) (i j : Nat) : Nat := if i < j then (if c ((i + j) / 2) = true then bsF c ((i + j) / 2 + 1) j else bsF c i ((i + j) / 2)) else i
termination_by j - i
decreasing_by
  · omega
  · omega
def rowBelow (m : Mdl) (r : Rw) (i : Nat) : Bool := decide (cmpRows (m.getD i dR) r < 0)
def bsR (m : Mdl) (r : Rw) : Nat := bsF (rowBelow m r) 0 m.length
def bsHit (m : Mdl) (r : Rw) : Bool := decide (bsR m r < m.length) && decide (cmpRows (m.getD (bsR m r) dR) r = 0)
def modelTerm (s : Sig) (m : Mdl) (t : Tm) : Rt × Bool := if (!(termSort s t).2 || !modelOk s m) = true then ((0, 0), false) else (valT m t, true)
end Pl
namespace Cg
open Go Pl
def A_l7Look (m : Mdl) (nm : ByteArray) (args : List Rt) : List Ann :=
  [.mk Nat (fun x => x ≤ m.length ∧ look m nm args = look (m.drop x) nm args) (fun x => { fr := pad [.any, st nm, rats args, .ptr 0 0, .any, .any, .ptr 1 0, i64 x] 40, H := [.var [mrows m], .var [i64 0, i64 0]] }) (fun x => m.length - x) (fun _ => [])]
def A_l7Term (m : Mdl) (a : ByteArray) (b : List Tm) : List Ann :=
  [.mk Nat (fun x => x ≤ b.length) (fun x => { fr := pad [.any, .any, .ptr 0 0, .ptr 1 0, .ptr 2 0, .osl 3 0 (valL m (b.take x)).length, i64 x] 30, H := [.var [mrows m], .var [st a, terms b], .var [i64 0, i64 0], arQ (valL m (b.take x))] }) (fun x => b.length - x) (fun _ => [])]
def A_BinRow (m : Mdl) (r : Rw) : List Ann :=
  [.mk (Nat × Nat) (fun x => x.1 ≤ x.2 ∧ x.2 ≤ m.length ∧ bsR m r = bsF (rowBelow m r) x.1 x.2) (fun x => { fr := pad [mrows m, .any, .fn (.func Nm.impl_compareRows) [], .any, .ptr 0 0, .any, .any, .any, i64 m.length, i64 x.1, i64 x.2] 49, H := [.var [st r.1, rats r.2.1, i64 r.2.2.1, i64 r.2.2.2]] }) (fun x => x.2 - x.1) (fun _ => [])]
def A_value (m : Mdl) (a : ByteArray) (b : List Tm) : List Ann :=
  [.mk Nat (fun x => x ≤ b.length) (fun x => { fr := pad [.any, .any, .ptr 0 0, .ptr 1 0, .ptr 2 0, .ptr 3 0, .any, .any, .any, .any, .any, .any, .any, .any, terms b, i64 b.length, i64 x] 45, H := [.var [mrows m], .var [st a, terms b], .var [i64 0, i64 0], .var [st a, .osl 4 0 (valL m (b.take x)).length, i64 0, i64 0], arQ (valL m (b.take x))] }) (fun x => b.length - x) (fun _ => [])]
end Cg

/-
  What is known of the library's callees: joined texts. No condition.
-/
namespace Pl
open Go
def bl' (s : ByteArray) : List UInt8 := s.data.toList
def interL (sep : List UInt8) : List (List UInt8) → List UInt8
  | [] => []
  | [x] => x
  | x :: y :: r => x ++ sep ++ interL sep (y :: r)
def joinS (xs : List ByteArray) (sep : ByteArray) : ByteArray := ⟨(interL (bl' sep) (xs.map bl')).toArray⟩
end Pl
namespace Cg
open Go Pl
def K_Join : Nat × Contract := (Nm.strings_Join, .sc (List ByteArray × ByteArray) (fun x => [strs x.1, st x.2]) (fun x => x.1.length ≤ 140737488355328 ∧ (joinS x.1 x.2).size ≤ 140737488355328) fun x => st (joinS x.1 x.2))
end Cg

/-
  Plain functions, and what is known of the codes' callees and loops: valid atoms. No condition.
-/
namespace Pl
open Go
def mkB (l : List UInt8) : ByteArray := ⟨⟨l⟩⟩
mutual
def textB : Tm → List UInt8
  | .mk v ks => if ks.isEmpty then bl' v else bl' v ++ [40] ++ interL [44] (textBs ks) ++ [41]
def textBs : List Tm → List (List UInt8)
  | [] => []
  | t :: ts => textB t :: textBs ts
end
def textT (t : Tm) : ByteArray := mkB (textB t)
def textL (l : List Tm) : List ByteArray := l.map textT
def spellB (v : List UInt8) (ts : List (List UInt8)) : List UInt8 := if ts.isEmpty then v else v ++ [40] ++ interL [44] ts
def spell (v : ByteArray) (ts : List Tm) : ByteArray := mkB (spellB (bl' v) (textBs ts))
def noneT (x : TP) : Bool := decide (x.1 = ByteArray.empty) && decide (x.2 = [])
def above (p : Option Tm) (t : Tm) : Bool := match p with
  | none => true
  | some q => sLess (textT q) (textT t)
def timeOk (n : Int) : Bool := decide (n ≠ 0) && decide (-50 ≤ n) && decide (n ≤ 50)
def numOk : Option Tm → List Tm → List Int → Bool
  | p, t :: ts, n :: ns => (right t && timeOk n && above p t) && numOk (some t) ts ns
  | _, _, _ => true
def prevN (l : List Tm) (k : Nat) : Option Tm := if k = 0 then none else some (l.getD (k - 1) dT)
def sumHead (x : Atm) : Bool := noneT x.2.1 && noneT x.2.2.1 && decide (x.2.2.2.1.length = x.2.2.2.2.1.length) && decide (1 ≤ x.2.2.2.1.length) && decide (x.2.2.2.1.length ≤ 4) && decide (-1000 ≤ x.2.2.2.2.2.1) && decide (x.2.2.2.2.2.1 ≤ 1000)
def sumRight (x : Atm) : Bool := sumHead x && numOk none x.2.2.2.1 x.2.2.2.2.1
def eqRight (x : Atm) : Bool := right (.mk x.2.1.1 x.2.1.2) && right (.mk x.2.2.1.1 x.2.2.1.2) && decide (x.2.2.2.1 = []) && decide (x.2.2.2.2.1 = []) && decide (x.2.2.2.2.2.1 = 0) && !x.2.2.2.2.2.2
def atomRight (x : Atm) : Bool := if x.1 = 2 then sumRight x else decide (x.1 = 1) && eqRight x
def isNum (s : Sig) (t : Tm) : Bool := (termSort s t).2 && decide ((termSort s t).1 = 1)
def eqSorted (s : Sig) (a b : Tm) : Bool := (termSort s a).2 && (termSort s b).2 && decide ((termSort s a).1 = (termSort s b).1)
def atomOk (s : Sig) (x : Atm) : Bool := sigOk s && atomRight x && if x.1 = 1 then eqSorted s (.mk x.2.1.1 x.2.1.2) (.mk x.2.2.1.1 x.2.2.1.2) else x.2.2.2.1.all (isNum s)
end Pl
namespace Cg
open Go Pl
def K_l4Text (n : Nat) : Nat × Contract := (Nm.spec_l4Text, .sc TP (fun x => [termA x]) (fun x => SmT (.mk x.1 x.2) ∧ manyL x.2 < n) fun x => st (textT (.mk x.1 x.2)))
def K_lText : Nat × Contract := (Nm.spec_l4Text, .sc TP (fun x => [termA x]) (fun x => SmT (.mk x.1 x.2)) fun x => st (textT (.mk x.1 x.2)))
def K_termText (n : Nat) : Nat × Contract := (Nm.impl_termText, .sc TP (fun x => [termA x]) (fun x => SmT (.mk x.1 x.2) ∧ manyL x.2 < n) fun x => st (textT (.mk x.1 x.2)))
def K_tText : Nat × Contract := (Nm.impl_termText, .sc TP (fun x => [termA x]) (fun x => SmT (.mk x.1 x.2)) fun x => st (textT (.mk x.1 x.2)))
def K_l6None : Nat × Contract := (Nm.spec_l6None, .sc TP (fun x => [termA x]) (fun _ => True) fun x => bl (noneT x))
def K_isNone : Nat × Contract := (Nm.impl_isNone, .sc TP (fun x => [termA x]) (fun _ => True) fun x => bl (noneT x))
def K_l6Sum : Nat × Contract := (Nm.spec_l6Sum, .sc Atm (fun x => [atomA x]) SmA fun x => bl (sumRight x))
def K_l6Right : Nat × Contract := (Nm.spec_l6Right, .sc Atm (fun x => [atomA x]) SmA fun x => bl (atomRight x))
def K_Atomok : Nat × Contract := (Nm.impl_Atom_ok, .sc Atm (fun x => [atomA x]) SmA fun x => bl (atomRight x))
def atomC (x : Atm) : List AV := [i64 x.1, st x.2.1.1, terms x.2.1.2, st x.2.2.1.1, terms x.2.2.1.2, terms x.2.2.2.1, ints x.2.2.2.2.1, i64 x.2.2.2.2.2.1, bl x.2.2.2.2.2.2]
def A_l4Text (a : ByteArray) (b : List Tm) : List Ann :=
  [.mk Nat (fun x => x ≤ b.length) (fun x => { fr := pad [.any, .ptr 0 0, .any, st (spell a (b.take x)), i64 x] 34, H := [.var [st a, terms b]] }) (fun x => b.length - x) (fun _ => [])]
def A_termText (a : ByteArray) (b : List Tm) : List Ann :=
  [.mk Nat (fun x => x ≤ b.length ∧ b ≠ []) (fun x => { fr := pad [.any, .ptr 0 0, .any, .osl 1 0 (textL (b.take x)).length, .any, .any, .any, .any, .any, .any, .any, .any, .any, terms b, i64 b.length, i64 x] 32, H := [.var [st a, terms b], arS (textL (b.take x))] }) (fun x => b.length - x) (fun _ => [])]
def A_l6Sum (a : Atm) : List Ann :=
  [.mk Nat (fun x => sumHead a = true ∧ x ≤ a.2.2.2.1.length ∧ numOk none a.2.2.2.1 a.2.2.2.2.1 = numOk (prevN a.2.2.2.1 x) (a.2.2.2.1.drop x) (a.2.2.2.2.1.drop x)) (fun x => { fr := pad [.any, .ptr 0 0, .any, i64 x] 97, H := [.var (atomC a)] }) (fun x => a.2.2.2.1.length - x) (fun _ => [])]
def A_Atomok (a : Atm) : List Ann :=
  [.mk Nat (fun x => a.1 = 2 ∧ sumHead a = true ∧ x ≤ a.2.2.2.1.length ∧ numOk none a.2.2.2.1 a.2.2.2.2.1 = numOk (prevN a.2.2.2.1 x) (a.2.2.2.1.drop x) (a.2.2.2.2.1.drop x)) (fun x => { fr := pad ([.any, .ptr 0 0] ++ List.replicate 72 .any ++ [terms a.2.2.2.1, i64 a.2.2.2.1.length, i64 x]) 118, H := [.var (atomC a)] }) (fun x => a.2.2.2.1.length - x) (fun _ => [])]
def A_sAtomOk (s : Sig) (a : Atm) : List Ann :=
  [.mk Nat (fun x => sigOk s = true ∧ atomRight a = true ∧ a.1 ≠ 1 ∧ x ≤ a.2.2.2.1.length ∧ a.2.2.2.1.all (isNum s) = (a.2.2.2.1.drop x).all (isNum s)) (fun x => { fr := pad [.any, .any, .ptr 0 0, .ptr 1 0, .any, .any, i64 x] 47, H := [.var [syms s], .var (atomC a)] }) (fun x => a.2.2.2.1.length - x) (fun _ => [])]
end Cg

/-
  Lists of literals: how they lie in cells; sizes, copies, equality. No condition.
-/
set_option linter.unusedVariables false
set_option linter.unusedSimpArgs false
namespace Pl
def dL : Ltr := ((0, (ByteArray.empty, []), (ByteArray.empty, []), [], [], 0, false), false)
def costLs (l : List Ltr) : Nat := l.length + sumN costL l
end Pl
namespace Cg
open Go Pl
def eL (x : Ltr) (j : Nat) : AV := match j with
  | 0 => i64 x.1.1
  | 1 => st x.1.2.1.1
  | 2 => terms x.1.2.1.2
  | 3 => st x.1.2.2.1.1
  | 4 => terms x.1.2.2.1.2
  | 5 => terms x.1.2.2.2.1
  | 6 => ints x.1.2.2.2.2.1
  | 7 => i64 x.1.2.2.2.2.2.1
  | 8 => bl x.1.2.2.2.2.2.2
  | _ => bl x.2
theorem EncN.eL : EncN 10 eL := fun x y => by
  constructor
  · intro h
    have h0 : Is (i64 x.1.1) (i64 y.1.1) := h 0 (by decide)
    have h1 : Is (st x.1.2.1.1) (st y.1.2.1.1) := h 1 (by decide)
    have h2 : Is (terms x.1.2.1.2) (terms y.1.2.1.2) := h 2 (by decide)
    have h3 : Is (st x.1.2.2.1.1) (st y.1.2.2.1.1) := h 3 (by decide)
    have h4 : Is (terms x.1.2.2.1.2) (terms y.1.2.2.1.2) := h 4 (by decide)
    have h5 : Is (terms x.1.2.2.2.1) (terms y.1.2.2.2.1) := h 5 (by decide)
    have h6 : Is (ints x.1.2.2.2.2.1) (ints y.1.2.2.2.2.1) := h 6 (by decide)
    have h7 : Is (i64 x.1.2.2.2.2.2.1) (i64 y.1.2.2.2.2.2.1) := h 7 (by decide)
    have h8 : Is (bl x.1.2.2.2.2.2.2) (bl y.1.2.2.2.2.2.2) := h 8 (by decide)
    have h9 : Is (bl x.2) (bl y.2) := h 9 (by decide)
    simp only [Is_i64, Is_u8, Is_bl, Is_st, Is_ints, Is_bools, Is_strs, Is_intss, Is_terms] at h0 h1 h2 h3 h4 h5 h6 h7 h8 h9
    grind
  · rintro rfl j hj
    match j, hj with
    | 0, _ => show Is (i64 x.1.1) (i64 x.1.1); simp
    | 1, _ => show Is (st x.1.2.1.1) (st x.1.2.1.1); simp
    | 2, _ => show Is (terms x.1.2.1.2) (terms x.1.2.1.2); simp
    | 3, _ => show Is (st x.1.2.2.1.1) (st x.1.2.2.1.1); simp
    | 4, _ => show Is (terms x.1.2.2.1.2) (terms x.1.2.2.1.2); simp
    | 5, _ => show Is (terms x.1.2.2.2.1) (terms x.1.2.2.2.1); simp
    | 6, _ => show Is (ints x.1.2.2.2.2.1) (ints x.1.2.2.2.2.1); simp
    | 7, _ => show Is (i64 x.1.2.2.2.2.2.1) (i64 x.1.2.2.2.2.2.1); simp
    | 8, _ => show Is (bl x.1.2.2.2.2.2.2) (bl x.1.2.2.2.2.2.2); simp
    | 9, _ => show Is (bl x.2) (bl x.2); simp
def cL (l : List Ltr) : Nat → Nat → AV := fun i j => eL (l.getD i dL) j
def litrs (l : List Ltr) : AV := .sl l.length 10 fun i j => eL (l.getD i dL) j
def arL (l : List Ltr) : AObj := .arr l.length 10 fun i j => eL (l.getD i dL) j
theorem Enc.litrs : Enc litrs := Enc.sln (by decide) EncN.eL dL
@[simp] theorem Is_litrs {x y : List Ltr} : Is (litrs x) (litrs y) ↔ x = y := Enc.litrs x y
@[simp] theorem IsO_litrs {x y : List Ltr} : IsO (arL x) (arL y) ↔ y = [] ∨ x = y := IsO_arn EncN.eL
@[simp] theorem IsO_litrs0 {n : Nat} {c : Nat → Nat → AV} : IsO (.arr n 10 c) (arL []) := IsO_nil
@[simp] theorem litrs_nil {q : Nat} {c : Nat → Nat → AV} {m : List Ltr} : Is (.lit 0 q c) (litrs m) ↔ m = [] := nil_sln
@[simp] theorem litrs_nilA {m : List Ltr} : Is nilA (litrs m) ↔ m = [] := nil_sln
@[simp] theorem litrs_join {l m : List Ltr} : IsO (.arr (l.length + m.length) 10 (joinC l.length (cL l) (cL m))) (arL (l ++ m)) := IsO_join EncN.eL (IsR_cel EncN.eL)
@[simp] theorem litrs_join0 {m : List Ltr} {c : Nat → Nat → AV} : IsO (.arr (0 + m.length) 10 (joinC 0 c (cL m))) (arL m) := IsO_join0 EncN.eL (IsR_cel EncN.eL)
@[simp] theorem litrs_join0' {m : List Ltr} {c : Nat → Nat → AV} : IsO (.arr m.length 10 (joinC 0 c (cL m))) (arL m) := IsO_join0 EncN.eL (IsR_cel EncN.eL)
theorem Is_rowL {k : Int} {a : ByteArray} {b : List Tm} {c : ByteArray} {d nums : List Tm} {times : List Int} {bound : Int} {strict no : Bool} {b' d' n' t' : AV} (hb : Is b' (terms b)) (hd : Is d' (terms d)) (hn : Is n' (terms nums)) (ht : Is t' (ints times)) : ∀ j, j < 10 → Is ([i64 k, st a, b', st c, d', n', t', i64 bound, bl strict, bl no].getD j .any) (eL ((k, (a, b), (c, d), nums, times, bound, strict), no) j) := fun j hj => by
  match j, hj with
  | 0, _ => exact (Enc.i64 k k).2 rfl
  | 1, _ => exact (Enc.st a a).2 rfl
  | 2, _ => exact hb
  | 3, _ => exact (Enc.st c c).2 rfl
  | 4, _ => exact hd
  | 5, _ => exact hn
  | 6, _ => exact ht
  | 7, _ => exact (Enc.i64 bound bound).2 rfl
  | 8, _ => exact (Enc.bl strict strict).2 rfl
  | 9, _ => exact (Enc.bl no no).2 rfl
@[simp] theorem litrs_set {l : List Ltr} {i : Nat} {k : Int} {a : ByteArray} {b : List Tm} {c : ByteArray} {d nums : List Tm} {times : List Int} {bound : Int} {strict no : Bool} : IsO (.arr l.length 10 (storeC (cL l) i 0 [i64 k, st a, terms b, st c, terms d, terms nums, ints times, i64 bound, bl strict, bl no])) (arL (l.set i ((k, (a, b), (c, d), nums, times, bound, strict), no))) := IsO_set EncN.eL rfl (Is_rowL ((Enc.terms b b).2 rfl) ((Enc.terms d d).2 rfl) ((Enc.terms nums nums).2 rfl) ((Enc.ints times times).2 rfl))
@[simp] theorem litrs_make {n : Nat} : IsO (.arr n 10 (fun _ j => [i64 0, st ByteArray.empty, nilA, st ByteArray.empty, nilA, nilA, nilA, i64 0, bl false, bl false].getD j .any)) (arL (List.replicate n dL)) := IsO_make EncN.eL (Is_rowL (terms_nilA.2 rfl) (terms_nilA.2 rfl) (terms_nilA.2 rfl) (ints_nilA.2 rfl))
abbrev MlLs (l : List Ltr) : Prop := l.length ≤ 9223372036854775807 ∧ ∀ x ∈ l, MlA x.1
abbrev SmLs (l : List Ltr) : Prop := costLs l ≤ 1048576
def A_szLitS (l : List Ltr) (k : Int) : List Ann :=
  [.mk Nat (fun x => x ≤ l.length ∧ 0 ≤ k - l.length - sumN costL (l.take x)) (fun x => { fr := pad [litrs l, i64 (k - l.length - sumN costL (l.take x)), .any, .any, .any, i64 x] 27, H := [] }) (fun x => l.length - x) (fun _ => [])]
def A_toLitS (l : List Ltr) : List Ann :=
  [.mk (Nat × List Ltr) (fun x => x.1 ≤ l.length ∧ x.2.length = l.length ∧ x.2.take x.1 = l.take x.1) (fun x => { fr := pad [litrs l, .any, .any, .osl 0 0 x.2.length, i64 x.1] 23, H := [arL x.2] }) (fun x => l.length - x.1) (fun _ => [])]
def A_eqLitS (l m : List Ltr) : List Ann :=
  [.mk Nat (fun x => x ≤ l.length ∧ l.length = m.length ∧ (l = m ↔ l.drop x = m.drop x)) (fun x => { fr := pad [litrs l, litrs m, .any, .any, .any, i64 x] 27, H := [] }) (fun x => l.length - x) (fun _ => [])]
end Cg

/-
  Plain functions: numerals and texts. No condition.
-/
set_option linter.unusedVariables false
set_option linter.unusedSimpArgs false
namespace Pl
def itoa (n : Int) : List UInt8 := Go.Lib.itoa n
/-- A number in decimals. -/
def dec (n : Int) : ByteArray := mkB (itoa n)
def catB {α : Type} (f : α → List UInt8) (l : List α) : List UInt8 := l.flatMap f
/-- A text, if it may be written. -/
def tx (ok : Bool) (l : List UInt8) : ByteArray := if ok = true then mkB l else ByteArray.empty
def argsB (l : List Int) : List UInt8 := if l = [] then [45] else catB itoa l
def symB (x : Sym) : List UInt8 := bl' x.1 ++ [32] ++ argsB x.2.1 ++ [32] ++ itoa x.2.2
def lineS (x : Sym) : List UInt8 := symB x ++ [10]
def sigB (s : Sig) : List UInt8 := catB lineS s
def ratB (q : Rt) : List UInt8 := if q.2 = 1 then itoa q.1 else itoa q.1 ++ [47] ++ itoa q.2
def spB (a : Rt) : List UInt8 := [32] ++ ratB a
def rowB (r : Rw) : List UInt8 := bl' r.1 ++ catB spB r.2.1 ++ [32, 61, 32] ++ ratB r.2.2
def lineR (r : Rw) : List UInt8 := rowB r ++ [10]
def modelB (m : Mdl) : List UInt8 := catB lineR m
def numB (t : Tm) (n : Int) : List UInt8 := itoa n ++ [42] ++ textB t ++ [32]
def numsB : List Tm → List Int → List UInt8
  | t :: ts, n :: ns => numB t n ++ numsB ts ns
  | _, _ => []
def atomB (x : Atm) : List UInt8 := if x.1 = 1 then textB (.mk x.2.1.1 x.2.1.2) ++ [61] ++ textB (.mk x.2.2.1.1 x.2.2.1.2) else numsB x.2.2.2.1 x.2.2.2.2.1 ++ (if x.2.2.2.2.2.2 = true then [60, 32] else [60, 61, 32]) ++ itoa x.2.2.2.2.2.1
def litB (l : Ltr) : List UInt8 := if l.2 = true then [110, 111, 116, 32] ++ atomB l.1 else atomB l.1
def signB (b : Bool) : List UInt8 := if b = true then [60] else [60, 61]
def In64 (n : Int) : Prop := -9223372036854775807 ≤ n ∧ n ≤ 9223372036854775807
def logRight (l : List (List Int)) : Bool := l.all (fun c => specClause c 60) && decide (l.length ≤ 130)
def itoaS (n : Int) : List UInt8 := itoa n ++ [32]
def clauseB (c : List Int) : List UInt8 := catB itoaS c ++ [48, 10]
def logB (l : List (List Int)) : List UInt8 := catB clauseB l
end Pl
namespace Cg
open Go Pl
abbrev LL := List (List Int)
def K_l16Dec (n : Nat) : Nat × Contract := (Nm.spec_l16Dec, .sc Int (fun x => [i64 x]) (fun x => In64 x ∧ (if x < 0 then 1 else 0) < n) fun x => st (dec x))
def K_dec : Nat × Contract := (Nm.spec_l16Dec, .sc Int (fun x => [i64 x]) (fun x => In64 x) fun x => st (dec x))
def K_Itoa : Nat × Contract := (Nm.strconv_Itoa, .sc Int (fun x => [i64 x]) (fun x => In64 x) fun x => st (dec x))
def K_sRatText : Nat × Contract := (Nm.spec_RatText, .sc Rt (fun x => [ratA x]) (fun _ => True) fun x => st (tx (ratOk x) (ratB x)))
def K_ratText : Nat × Contract := (Nm.impl_ratText, .sc Rt (fun x => [ratA x]) (fun x => ratOk x = true) fun x => st (mkB (ratB x)))
def K_sAtomText : Nat × Contract := (Nm.spec_AtomText, .sc Atm (fun x => [atomA x]) SmA fun x => st (tx (atomRight x) (atomB x)))
def K_atomText : Nat × Contract := (Nm.impl_atomText, .sc Atm (fun x => [atomA x]) (fun x => SmA x ∧ atomRight x = true) fun x => st (mkB (atomB x)))
def K_iAtomText : Nat × Contract := (Nm.impl_AtomText, .sc Atm (fun x => [atomA x]) SmA fun x => st (tx (atomRight x) (atomB x)))
def K_sign : Nat × Contract := (Nm.impl_sign, .sc Bool (fun x => [bl x]) (fun _ => True) fun x => st (mkB (signB x)))
def K_sLitText : Nat × Contract := (Nm.spec_LitText, .sc Ltr (fun x => [litA x]) (fun x => SmA x.1) fun x => st (tx (atomRight x.1) (litB x)))
def K_litText : Nat × Contract := (Nm.impl_litText, .sc Ltr (fun x => [litA x]) (fun x => SmA x.1 ∧ atomRight x.1 = true) fun x => st (mkB (litB x)))
def K_iLitText : Nat × Contract := (Nm.impl_LitText, .sc Ltr (fun x => [litA x]) (fun x => SmA x.1) fun x => st (tx (atomRight x.1) (litB x)))
def K_l4Line : Nat × Contract := (Nm.spec_l4Line, .sc Sym (fun x => [symA x]) (fun x => symOk x = true) fun x => st (mkB (lineS x)))
def K_sSigText : Nat × Contract := (Nm.spec_SigText, .sc Sig (fun x => [sigA x]) SmG fun x => st (tx (sigOk x) (sigB x)))
def K_symtext : Nat × Contract := (Nm.impl_Sym_text, .sc Sym (fun x => [symA x]) (fun x => symOk x = true) fun x => st (mkB (symB x)))
def K_iSigText : Nat × Contract := (Nm.impl_SigText, .sc Sig (fun x => [sigA x]) SmG fun x => st (tx (sigOk x) (sigB x)))
def K_l11Right : Nat × Contract := (Nm.spec_l11Right, .sc LL (fun x => [intss x]) SzL fun x => bl (logRight x))
def K_sLogText : Nat × Contract := (Nm.spec_LogText, .sc LL (fun x => [intss x]) SzL fun x => st (tx (logRight x) (logB x)))
def K_isLog1 : Nat × Contract := (Nm.impl_isLog_1, .sc (List Int) (fun x => [ints x]) Sz fun x => bl (!specClause x 60))
def K_IndexLog : Nat × Contract := (Nm.slices_IndexFunc_SSint_Sint, .sc LL (fun x => [intss x, .fn (.func Nm.impl_isLog_1) []]) SzL fun x => i64 (idx (fun y => !specClause y 60) x))
def K_ContainsLog : Nat × Contract := (Nm.slices_ContainsFunc_SSint_Sint, .sc LL (fun x => [intss x, .fn (.func Nm.impl_isLog_1) []]) SzL fun x => bl (x.any fun y => !specClause y 60))
def K_isLog : Nat × Contract := (Nm.impl_isLog, .sc LL (fun x => [intss x]) SzL fun x => bl (logRight x))
def K_spaced : Nat × Contract := (Nm.impl_spaced, .sc (List Int) (fun x => [ints x]) (fun x => specClause x 60 = true) fun x => st (mkB (catB itoaS x)))
def K_logText : Nat × Contract := (Nm.impl_logText, .sc LL (fun x => [intss x]) (fun x => logRight x = true) fun x => st (mkB (logB x)))
def K_iLogText : Nat × Contract := (Nm.impl_LogText, .sc LL (fun x => [intss x]) SzL fun x => st (tx (logRight x) (logB x)))
def K_sModelText : Nat × Contract := (Nm.spec_ModelText, .sc Mdl (fun x => [modelA x]) SmM fun x => st (tx (mRight x) (modelB x)))
def K_rowtext : Nat × Contract := (Nm.impl_Row_text, .sc Rw (fun x => [rowA x]) (fun x => rowOk x = true) fun x => st (mkB (rowB x)))
def K_modelText : Nat × Contract := (Nm.impl_modelText, .sc Mdl (fun x => [modelA x]) (fun x => mRight x = true) fun x => st (mkB (modelB x)))
def K_iModelText : Nat × Contract := (Nm.impl_ModelText, .sc Mdl (fun x => [modelA x]) SmM fun x => st (tx (mRight x) (modelB x)))
def K_xAtomText : Nat × Contract := (Nm.laws_FnExactAtomText, .sc Atm (fun x => [atomA x]) MlA fun _ => bl true)
def K_xLitText : Nat × Contract := (Nm.laws_FnExactLitText, .sc Ltr (fun x => [litA x]) (fun x => MlA x.1) fun _ => bl true)
def K_xSigText : Nat × Contract := (Nm.laws_FnExactSigText, .sc Sig (fun x => [sigA x]) MlG fun _ => bl true)
def K_xLogText : Nat × Contract := (Nm.laws_FnExactLogText, .sc LL (fun x => [intss x]) MlL fun _ => bl true)
def K_xModelText : Nat × Contract := (Nm.laws_FnExactModelText, .sc Mdl (fun x => [modelA x]) MlM fun _ => bl true)

def A_l16Dec (x : Int) : List Ann :=
  [.mk (Nat × ByteArray) (fun y => In64 (y.1 : Int) ∧ 0 ≤ x ∧ dec x = dec y.1 ++ y.2) (fun y => { fr := pad [i64 (y.1 : Int), .any, .any, st y.2] 31, H := [] }) (fun y => y.1) (fun _ => [])]
def A_sAtomText (a : Atm) : List Ann :=
  [.mk Nat (fun x => ¬ a.1 = 1 ∧ atomRight a = true ∧ x ≤ a.2.2.2.1.length) (fun x => { fr := pad [.any, .ptr 0 0, .any, st (mkB (numsB (a.2.2.2.1.take x) (a.2.2.2.2.1.take x))), i64 x] 57, H := [.var (atomC a)] }) (fun x => a.2.2.2.1.length - x) (fun _ => [])]
def A_atomText (a : Atm) : List Ann :=
  [.mk Nat (fun x => ¬ a.1 = 1 ∧ x ≤ a.2.2.2.1.length) (fun x => { fr := pad ([.any, .ptr 0 0, .any, st (mkB (numsB (a.2.2.2.1.take x) (a.2.2.2.2.1.take x)))] ++ List.replicate 14 .any ++ [terms a.2.2.2.1, i64 a.2.2.2.1.length, i64 x]) 49, H := [.var (atomC a)] }) (fun x => a.2.2.2.1.length - x) (fun _ => [])]
def A_l4Line (y : Sym) : List Ann :=
  [.mk Nat (fun x => x ≤ y.2.1.length) (fun x => { fr := pad [.any, .ptr 0 0, .any, st (mkB (catB itoa (y.2.1.take x))), i64 x] 33, H := [.var [st y.1, ints y.2.1, i64 y.2.2]] }) (fun x => y.2.1.length - x) (fun _ => [])]
def A_sSigText (s : Sig) : List Ann :=
  [.mk Nat (fun x => x ≤ s.length ∧ (sigOk s = true ∨ x = 0)) (fun x => { fr := pad [.any, .ptr 0 0, .any, st (mkB (sigB (s.take x))), i64 x] 25, H := [.var [syms s]] }) (fun x => s.length - x) (fun _ => [])]
def A_symtext (y : Sym) : List Ann :=
  [.mk Nat (fun x => x ≤ y.2.1.length) (fun x => { fr := pad [.any, .ptr 0 0, .any, st (mkB (catB itoa (y.2.1.take x))), .any, .any, .any, ints y.2.1, i64 y.2.1.length, i64 x] 30, H := [.var [st y.1, ints y.2.1, i64 y.2.2]] }) (fun x => y.2.1.length - x) (fun _ => [])]
def A_l11Right (l : LL) : List Ann :=
  [.mk Nat (fun x => x ≤ l.length ∧ l.all (fun c => specClause c 60) = (l.drop x).all (fun c => specClause c 60)) (fun x => { fr := pad [intss l, .any, .any, i64 x] 19, H := [] }) (fun x => l.length - x) (fun _ => [])]
def A_sLogText (l : LL) : List Ann :=
  [.mk Nat (fun x => x ≤ l.length ∧ (logRight l = true ∨ x = 0)) (fun x => { fr := pad [intss l, .any, .any, st (mkB (logB (l.take x))), i64 x] 39, H := [] }) (fun x => l.length - x)
    (fun x => [.mk Nat (fun y => x < l.length ∧ logRight l = true ∧ y ≤ (l.getD x []).length) (fun y => { fr := pad [intss l, .any, .any, st (mkB (logB (l.take x) ++ catB itoaS ((l.getD x []).take y))), i64 x, i64 y] 39, H := [] }) (fun y => (l.getD x []).length - y) (fun _ => [])])]
def A_IndexLog (l : LL) : List Ann :=
  [.mk Nat (fun x => x ≤ l.length ∧ idx (fun y => !specClause y 60) l = if idx (fun y => !specClause y 60) (l.drop x) < 0 then -1 else idx (fun y => !specClause y 60) (l.drop x) + x)
    (fun x => { fr := pad [intss l, .fn (.func Nm.impl_isLog_1) [], .any, .any, .any, .any, .any, i64 l.length, i64 x] 19, H := [] }) (fun x => l.length - x) (fun _ => [])]
def A_spaced (c : List Int) : List Ann :=
  [.mk Nat (fun x => x ≤ c.length) (fun x => { fr := pad [.any, .any, .any, st (mkB (catB itoaS (c.take x))), .any, .any, ints c, i64 c.length, i64 x] 19, H := [] }) (fun x => c.length - x) (fun _ => [])]
def A_sModelText (m : Mdl) : List Ann :=
  [.mk Nat (fun x => x ≤ m.length ∧ (mRight m = true ∨ x = 0)) (fun x => { fr := pad [.any, .ptr 0 0, .any, st (mkB (modelB (m.take x))), i64 x] 61, H := [.var [mrows m]] }) (fun x => m.length - x)
    (fun x => [.mk Nat (fun y => x < m.length ∧ mRight m = true ∧ y ≤ (m.getD x dR).2.1.length) (fun y => { fr := pad [.any, .ptr 0 0, .any, st (mkB (modelB (m.take x) ++ bl' (m.getD x dR).1 ++ catB spB ((m.getD x dR).2.1.take y))), i64 x, i64 y] 61, H := [.var [mrows m]] }) (fun y => (m.getD x dR).2.1.length - y) (fun _ => [])])]
def A_rowtext (r : Rw) : List Ann :=
  [.mk Nat (fun x => x ≤ r.2.1.length) (fun x => { fr := pad [.any, .ptr 0 0, .any, st (mkB (bl' r.1 ++ catB spB (r.2.1.take x))), .any, .any, .any, .any, .any, rats r.2.1, i64 r.2.1.length, i64 x] 27, H := [.var [st r.1, rats r.2.1, i64 r.2.2.1, i64 r.2.2.2]] }) (fun x => r.2.1.length - x) (fun _ => [])]
end Cg

/-
  What is left to show of each function's code, printed by a program: Txt. No condition.
-/
set_option maxRecDepth 100000
set_option linter.unusedVariables false
namespace Cg
open Go Go.Proofs
theorem vc_l16Dec (n : Nat) (x : Int) : (condP (decide (x < (-9223372036854775807 : Int)))
 (ByteArray.mk
 #[(45 : UInt8), (57 : UInt8), (50 : UInt8), (50 : UInt8), (51 : UInt8), (51 : UInt8), (55 : UInt8), (50 : UInt8), (48 : UInt8), (51 : UInt8), (54 : UInt8), (56 : UInt8), (53 : UInt8),
 (52 : UInt8), (55 : UInt8), (55 : UInt8), (53 : UInt8), (56 : UInt8), (48 : UInt8), (56 : UInt8)] =
 Pl.dec x)
 (condP (decide (x < (0 : Int)))
 (∃ x_1 : Int,
 (IntKind.i64.wrap ((0 : Int) - x) = x_1 ∧ True) ∧ (Pl.In64 x_1 ∧ (if x_1 < (0 : Int) then (1 : Nat) else (0 : Nat)) < n) ∧ (↑((1 : Nat) + (Pl.dec x_1).size) : Int) ≤ (9223372036854775807 : Int) ∧ ByteArray.mk #[(45 : UInt8)] ++ Pl.dec x_1 = Pl.dec x)
 ((∃ x_1 : Nat × ByteArray,
 (Pl.In64 (↑x_1.1 : Int) ∧ (0 : Int) ≤ x ∧ Pl.dec x = Pl.dec (↑x_1.1 : Int) ++ x_1.2) ∧ (x = (↑x_1.1 : Int) ∧ ByteArray.mk #[] = x_1.2 ∧ True) ∧ True) ∧ ∀ (x_1 : Nat × ByteArray),
 Pl.In64 (↑x_1.1 : Int) ∧ (0 : Int) ≤ x ∧ Pl.dec x = Pl.dec (↑x_1.1 : Int) ++ x_1.2 →
 condP (decide ((↑x_1.1 : Int) > (9 : Int)))
 ((10 : Int) ≠ (0 : Int) ∧ (↑((ByteArray.mk (#[].push (UInt8.ofNat (IntKind.u8.wrap (IntKind.i64.wrap ((48 : Int) + (↑x_1.1 : Int).tmod (10 : Int)))).toNat))).size + x_1.2.size) : Int) ≤
 (9223372036854775807 : Int) ∧ (10 : Int) ≠ (0 : Int) ∧ Exists fun (x' : Nat × ByteArray) =>
 (Pl.In64 (↑x'.1 : Int) ∧ (0 : Int) ≤ x ∧ Pl.dec x = Pl.dec (↑x'.1 : Int) ++ x'.2) ∧ x'.1 < x_1.1 ∧ (IntKind.i64.wrap ((↑x_1.1 : Int).tdiv (10 : Int)) = (↑x'.1 : Int) ∧ ByteArray.mk (#[].push (UInt8.ofNat (IntKind.u8.wrap (IntKind.i64.wrap ((48 : Int) + (↑x_1.1 : Int).tmod (10 : Int)))).toNat)) ++ x_1.2 = x'.2 ∧ True) ∧ True)
 ((↑((ByteArray.mk (#[].push (UInt8.ofNat (IntKind.u8.wrap (IntKind.i64.wrap ((48 : Int) + (↑x_1.1 : Int)))).toNat))).size + x_1.2.size) : Int) ≤ (9223372036854775807 : Int) ∧ ByteArray.mk (#[].push (UInt8.ofNat (IntKind.u8.wrap (IntKind.i64.wrap ((48 : Int) + (↑x_1.1 : Int)))).toNat)) ++ x_1.2 = Pl.dec x)))) = Goal Tryd.prog [(K_l16Dec n)] (A_l16Dec x) (K_l16Dec (n + 1)).1 (K_l16Dec (n + 1)).2 (x) := by kernel_rfl

theorem vc_l11Right (x : LL) : ((∃ x_1 : Nat,
 (x_1 ≤ List.length x ∧ (List.all x fun (c : List Int) => Pl.specClause c (60 : Int)) = (List.drop x_1 x).all fun (c : List Int) => Pl.specClause c (60 : Int)) ∧ (Is (intss x) (intss x) ∧ (0 : Int) = (↑x_1 : Int) ∧ True) ∧ True) ∧ ∀ (x_1 : Nat),
 (x_1 ≤ List.length x ∧ (List.all x fun (c : List Int) => Pl.specClause c (60 : Int)) = (List.drop x_1 x).all fun (c : List Int) => Pl.specClause c (60 : Int)) →
 condP (decide ((↑x_1 : Int) < (↑(List.length x) : Int)))
 (((0 : Int) ≤ (↑x_1 : Int) ∧ (↑x_1 : Int) < (↑(List.length x) : Int)) ∧ x_1 < List.length x ∧ ∃ x_2 : List Int × Int,
 (Is (ints (List.getD x x_1 [])) (ints x_2.1) ∧ (60 : Int) = x_2.2 ∧ True) ∧ Sz x_2.1 ∧ condP (!Pl.specClause x_2.1 x_2.2) (false = Pl.logRight x)
 (Exists fun (x' : Nat) =>
 (x' ≤ List.length x ∧ (List.all x fun (c : List Int) => Pl.specClause c (60 : Int)) = (List.drop x' x).all fun (c : List Int) => Pl.specClause c (60 : Int)) ∧ List.length x - x' < List.length x - x_1 ∧ (Is (intss x) (intss x) ∧ IntKind.i64.wrap ((↑x_1 : Int) + (1 : Int)) = (↑x' : Int) ∧ True) ∧ True))
 (decide ((↑(List.length x) : Int) ≤ (130 : Int)) = Pl.logRight x)) = Goal Tryd.prog [K_sClauseOk] (A_l11Right x) K_l11Right.1 K_l11Right.2 (x) := by kernel_rfl

theorem vc_sLogText (x : LL) : ((∃ x_1 : Nat,
 (x_1 ≤ List.length x ∧ (Pl.logRight x = true ∨ x_1 = (0 : Nat))) ∧ (Is (intss x) (intss x) ∧ ByteArray.mk #[] = Pl.mkB (Pl.logB (List.take x_1 x)) ∧ (0 : Int) = (↑x_1 : Int) ∧ True) ∧ True) ∧ ∀ (x_1 : Nat),
 x_1 ≤ List.length x ∧ (Pl.logRight x = true ∨ x_1 = (0 : Nat)) →
 condP (decide ((↑x_1 : Int) < (↑(List.length x) : Int)))
 (∃ x_2 : LL,
 (Is (intss x) (intss x_2) ∧ True) ∧ SzL x_2 ∧ condP (Pl.logRight x_2)
 ((∃ x_3 : Nat,
 (x_1 < List.length x ∧ Pl.logRight x = true ∧ x_3 ≤ (List.getD x x_1 []).length) ∧ (Is (intss x) (intss x) ∧ Pl.mkB (Pl.logB (List.take x_1 x)) = Pl.mkB (Pl.logB (List.take x_1 x) ++ Pl.catB Pl.itoaS (List.take x_3 (List.getD x x_1 []))) ∧ (↑x_1 : Int) = (↑x_1 : Int) ∧ (0 : Int) = (↑x_3 : Int) ∧ True) ∧ True) ∧ ∀ (x_3 : Nat),
 x_1 < List.length x ∧ Pl.logRight x = true ∧ x_3 ≤ (List.getD x x_1 []).length →
 ((0 : Int) ≤ (↑x_1 : Int) ∧ (↑x_1 : Int) < (↑(List.length x) : Int)) ∧ x_1 < List.length x ∧ condP (decide ((↑x_3 : Int) < (↑(List.getD x x_1 []).length : Int)))
 (((0 : Int) ≤ (↑x_1 : Int) ∧ (↑x_1 : Int) < (↑(List.length x) : Int)) ∧ x_1 < List.length x ∧ ((0 : Int) ≤ (↑x_3 : Int) ∧ (↑x_3 : Int) < (↑(List.getD x x_1 []).length : Int)) ∧ x_3 < (List.getD x x_1 []).length ∧ ∃ x_4 : Int,
 ((List.getD x x_1 []).getD x_3 (0 : Int) = x_4 ∧ True) ∧ Pl.In64 x_4 ∧ (↑((Pl.mkB (Pl.logB (List.take x_1 x) ++ Pl.catB Pl.itoaS (List.take x_3 (List.getD x x_1 [])))).size + (Pl.dec x_4).size) : Int) ≤
 (9223372036854775807 : Int) ∧ (↑((Pl.mkB (Pl.logB (List.take x_1 x) ++ Pl.catB Pl.itoaS (List.take x_3 (List.getD x x_1 []))) ++ Pl.dec x_4).size + (1 : Nat)) : Int) ≤
 (9223372036854775807 : Int) ∧ Exists fun (x' : Nat) =>
 (x_1 < List.length x ∧ Pl.logRight x = true ∧ x' ≤ (List.getD x x_1 []).length) ∧ (List.getD x x_1 []).length - x' < (List.getD x x_1 []).length - x_3 ∧ (Is (intss x) (intss x) ∧ Pl.mkB (Pl.logB (List.take x_1 x) ++ Pl.catB Pl.itoaS (List.take x_3 (List.getD x x_1 []))) ++ Pl.dec x_4 ++ ByteArray.mk #[(32 : UInt8)] =
 Pl.mkB (Pl.logB (List.take x_1 x) ++ Pl.catB Pl.itoaS (List.take x' (List.getD x x_1 []))) ∧ (↑x_1 : Int) = (↑x_1 : Int) ∧ IntKind.i64.wrap ((↑x_3 : Int) + (1 : Int)) = (↑x' : Int) ∧ True) ∧ True)
 ((↑((Pl.mkB (Pl.logB (List.take x_1 x) ++ Pl.catB Pl.itoaS (List.take x_3 (List.getD x x_1 [])))).size + (2 : Nat)) : Int) ≤ (9223372036854775807 : Int) ∧ Exists fun (x' : Nat) =>
 (x' ≤ List.length x ∧ (Pl.logRight x = true ∨ x' = (0 : Nat))) ∧ List.length x - x' < List.length x - x_1 ∧ (Is (intss x) (intss x) ∧ Pl.mkB (Pl.logB (List.take x_1 x) ++ Pl.catB Pl.itoaS (List.take x_3 (List.getD x x_1 []))) ++ ByteArray.mk #[(48 : UInt8), (10 : UInt8)] =
 Pl.mkB (Pl.logB (List.take x' x)) ∧ IntKind.i64.wrap ((↑x_1 : Int) + (1 : Int)) = (↑x' : Int) ∧ True) ∧ True))
 (Pl.mkB (Pl.logB (List.take x_1 x)) = Pl.tx (Pl.logRight x) (Pl.logB x)))
 (Pl.mkB (Pl.logB (List.take x_1 x)) = Pl.tx (Pl.logRight x) (Pl.logB x))) = Goal Tryd.prog [K_l11Right, K_dec] (A_sLogText x) K_sLogText.1 K_sLogText.2 (x) := by kernel_rfl

theorem vc_isLog1 (x : List Int) : (∃ x_1 : List Int × Int, (Is (ints x) (ints x_1.1) ∧ (60 : Int) = x_1.2 ∧ True) ∧ Sz x_1.1 ∧ (!Pl.implClause x_1.1 x_1.2) = !Pl.specClause x (60 : Int)) = Goal Tryd.prog [K_iClauseOk] ([]) K_isLog1.1 K_isLog1.2 (x) := by kernel_rfl

theorem vc_IndexLog (x : LL) : ((∃ x_1 : Nat,
 (x_1 ≤ List.length x ∧ Pl.idx (fun (y : List Int) => !Pl.specClause y (60 : Int)) x =
 if Pl.idx (fun (y : List Int) => !Pl.specClause y (60 : Int)) (List.drop x_1 x) < (0 : Int) then (-1 : Int)
 else Pl.idx (fun (y : List Int) => !Pl.specClause y (60 : Int)) (List.drop x_1 x) + (↑x_1 : Int)) ∧ (Is (intss x) (intss x) ∧ True ∧ (↑(List.length x) : Int) = (↑(List.length x) : Int) ∧ (0 : Int) = (↑x_1 : Int) ∧ True) ∧ True) ∧ ∀ (x_1 : Nat),
 (x_1 ≤ List.length x ∧ Pl.idx (fun (y : List Int) => !Pl.specClause y (60 : Int)) x =
 if Pl.idx (fun (y : List Int) => !Pl.specClause y (60 : Int)) (List.drop x_1 x) < (0 : Int) then (-1 : Int)
 else Pl.idx (fun (y : List Int) => !Pl.specClause y (60 : Int)) (List.drop x_1 x) + (↑x_1 : Int)) →
 condP (decide ((↑x_1 : Int) < (↑(List.length x) : Int)))
 (((0 : Int) ≤ (↑x_1 : Int) ∧ (↑x_1 : Int) < (↑(List.length x) : Int)) ∧ x_1 < List.length x ∧ ∃ x_2 : List Int,
 (Is (ints (List.getD x x_1 [])) (ints x_2) ∧ True) ∧ Sz x_2 ∧ condP (!Pl.specClause x_2 (60 : Int)) ((↑x_1 : Int) = Pl.idx (fun (y : List Int) => !Pl.specClause y (60 : Int)) x)
 (Exists fun (x' : Nat) =>
 (x' ≤ List.length x ∧ Pl.idx (fun (y : List Int) => !Pl.specClause y (60 : Int)) x =
 if Pl.idx (fun (y : List Int) => !Pl.specClause y (60 : Int)) (List.drop x' x) < (0 : Int) then (-1 : Int)
 else Pl.idx (fun (y : List Int) => !Pl.specClause y (60 : Int)) (List.drop x' x) + (↑x' : Int)) ∧ List.length x - x' < List.length x - x_1 ∧ (Is (intss x) (intss x) ∧ True ∧ (↑(List.length x) : Int) = (↑(List.length x) : Int) ∧ IntKind.i64.wrap ((↑x_1 : Int) + (1 : Int)) = (↑x' : Int) ∧ True) ∧ True))
 ((-1 : Int) = Pl.idx (fun (y : List Int) => !Pl.specClause y (60 : Int)) x)) = Goal Tryd.prog [K_isLog1] (A_IndexLog x) K_IndexLog.1 K_IndexLog.2 (x) := by kernel_rfl

theorem vc_ContainsLog (x : LL) : (∃ x_1 : LL,
 (Is (intss x) (intss x_1) ∧ True ∧ True) ∧ SzL x_1 ∧ decide (Pl.idx (fun (y : List Int) => !Pl.specClause y (60 : Int)) x_1 ≥ (0 : Int)) = List.any x fun (y : List Int) => !Pl.specClause y (60 : Int)) = Goal Tryd.prog [K_IndexLog] ([]) K_ContainsLog.1 K_ContainsLog.2 (x) := by kernel_rfl

theorem vc_isLog (x : LL) : (condP (decide ((↑(List.length x) : Int) ≤ (130 : Int)))
 (∃ x_1 : LL, (Is (intss x) (intss x_1) ∧ True ∧ True) ∧ SzL x_1 ∧ (!List.any x_1 fun (y : List Int) => !Pl.specClause y (60 : Int)) = Pl.logRight x)
 (false = Pl.logRight x)) = Goal Tryd.prog [K_ContainsLog] ([]) K_isLog.1 K_isLog.2 (x) := by kernel_rfl

theorem vc_spaced (x : List Int) : ((∃ x_1 : Nat,
 x_1 ≤ x.length ∧ (ByteArray.mk #[] = Pl.mkB (Pl.catB Pl.itoaS (List.take x_1 x)) ∧ Is (ints x) (ints x) ∧ (↑x.length : Int) = (↑x.length : Int) ∧ (0 : Int) = (↑x_1 : Int) ∧ True) ∧ True) ∧ ∀ (x_1 : Nat),
 x_1 ≤ x.length →
 condP (decide ((↑x_1 : Int) < (↑x.length : Int)))
 (((0 : Int) ≤ (↑x_1 : Int) ∧ (↑x_1 : Int) < (↑x.length : Int)) ∧ x_1 < x.length ∧ ∃ x_2 : Int,
 (x.getD x_1 (0 : Int) = x_2 ∧ True) ∧ Pl.In64 x_2 ∧ (↑((Pl.dec x_2).size + (1 : Nat)) : Int) ≤ (9223372036854775807 : Int) ∧ (↑((Pl.mkB (Pl.catB Pl.itoaS (List.take x_1 x))).size + (Pl.dec x_2 ++ ByteArray.mk #[(32 : UInt8)]).size) : Int) ≤ (9223372036854775807 : Int) ∧ Exists fun (x' : Nat) =>
 x' ≤ x.length ∧ x.length - x' < x.length - x_1 ∧ (Pl.mkB (Pl.catB Pl.itoaS (List.take x_1 x)) ++ (Pl.dec x_2 ++ ByteArray.mk #[(32 : UInt8)]) = Pl.mkB (Pl.catB Pl.itoaS (List.take x' x)) ∧ Is (ints x) (ints x) ∧ (↑x.length : Int) = (↑x.length : Int) ∧ IntKind.i64.wrap ((↑x_1 : Int) + (1 : Int)) = (↑x' : Int) ∧ True) ∧ True)
 (Pl.mkB (Pl.catB Pl.itoaS (List.take x_1 x)) = Pl.mkB (Pl.catB Pl.itoaS x))) = Goal Tryd.prog [K_Itoa] (A_spaced x) K_spaced.1 K_spaced.2 (x) := by kernel_rfl

theorem vc_iLogText (x : LL) : (∃ x_1 : LL,
 (Is (intss x) (intss x_1) ∧ True) ∧ SzL x_1 ∧ condP (!Pl.logRight x_1) (ByteArray.mk #[] = Pl.tx (Pl.logRight x) (Pl.logB x))
 (∃ x_2 : LL, (Is (intss x) (intss x_2) ∧ True) ∧ Pl.logRight x_2 = true ∧ Pl.mkB (Pl.logB x_2) = Pl.tx (Pl.logRight x) (Pl.logB x))) = Goal Tryd.prog [K_isLog, K_logText] ([]) K_iLogText.1 K_iLogText.2 (x) := by kernel_rfl

theorem vc_xLogText (x : LL) : (Exists fun (x_1 : List (List Int) × Int) =>
 (Is (intss x) (intss x_1.1) ∧ (1048576 : Int) = x_1.2 ∧ True) ∧ (MlL x_1.1 ∧ Fu x_1.2) ∧ condP (decide (Pl.szSS x_1.1 x_1.2 < (0 : Int))) (true = true)
 (Exists fun (x_2 : List (List Int)) =>
 (Is (intss x) (intss x_2) ∧ True) ∧ SzL x_2 ∧ ∃ x_3 : LL,
 (Is (intss x_2) (intss x_3) ∧ True) ∧ SzL x_3 ∧ Exists fun (x_4 : List (List Int)) =>
 (Is (intss x) (intss x_4) ∧ True) ∧ SzL x_4 ∧ ∃ x_5 : LL,
 (Is (intss x_4) (intss x_5) ∧ True) ∧ SzL x_5 ∧ condP (!(Pl.tx (Pl.logRight x_5) (Pl.logB x_5)).toList == (Pl.tx (Pl.logRight x_3) (Pl.logB x_3)).toList) (false = true)
 (Exists fun (x_6 : List (List Int)) =>
 (Is (intss x) (intss x_6) ∧ True) ∧ SzL x_6 ∧ Exists fun (x : List (List Int) × List (List Int)) =>
 (Is (intss x_4) (intss x.1) ∧ Is (intss x_6) (intss x.2) ∧ True) ∧ SzL x.1 ∧ condP (!decide (x.1 = x.2)) (false = true) (true = true)))) = Goal Tryd.prog [K_szIntSS, K_toIntSS, K_sLogText, K_iLogText, K_eqIntSS] ([]) K_xLogText.1 K_xLogText.2 (x) := by kernel_rfl

end Cg

/-
  What is left to show of each function's code, printed by a program: Atm. No condition.
-/
set_option maxRecDepth 100000
set_option linter.unusedVariables false
namespace Cg
open Go Go.Proofs
end Cg

/-
  What is left to show of each function's code, printed by a program: Mtm. No condition.
-/
set_option maxRecDepth 100000
set_option linter.unusedVariables false
namespace Cg
open Go Go.Proofs
end Cg

/-
  What is left to show of each function's code, printed by a program: Mok. No condition.
-/
set_option maxRecDepth 100000
set_option linter.unusedVariables false
namespace Cg
open Go Go.Proofs
end Cg

/-
  What is left to show of each function's code, printed by a program: Model. No condition.
-/
set_option maxRecDepth 100000
set_option linter.unusedVariables false
namespace Cg
open Go Go.Proofs
end Cg

/-
  What is left to show of each function's code, printed by a program: Tsort. No condition.
-/
set_option maxRecDepth 100000
set_option linter.unusedVariables false
namespace Cg
open Go Go.Proofs
end Cg

/-
  What is left to show of each function's code, printed by a program: Sort. No condition.
-/
set_option maxRecDepth 100000
set_option linter.unusedVariables false
namespace Cg
open Go Go.Proofs
end Cg

/-
  What is left to show of each function's code, printed by a program: Sig. No condition.
-/
set_option maxRecDepth 100000
set_option linter.unusedVariables false
namespace Cg
open Go Go.Proofs
end Cg

/-
  What is left to show of each function's code, printed by a program: Rows. No condition.
-/
set_option maxRecDepth 100000
set_option linter.unusedVariables false
namespace Cg
open Go Go.Proofs
theorem vc_szIntS (l : List Int) (k : Int) : (condP (decide (IntKind.i64.wrap (k - (↑l.length : Int)) < (0 : Int))) ((-1 : Int) = Pl.sz1 l.length k) (IntKind.i64.wrap (k - (↑l.length : Int)) = Pl.sz1 l.length k)) = Goal Tryd.prog [] ([]) K_szIntS.1 K_szIntS.2 ((l, k)) := by kernel_rfl

theorem vc_szIntSS (l : List (List Int)) (k : Int) : (condP (decide (IntKind.i64.wrap (k - (↑l.length : Int)) < (0 : Int))) ((-1 : Int) = Pl.szSS l k)
 ((∃ x : Nat × Int,
 (x.1 ≤ l.length ∧ Fu x.2 ∧ Pl.szSS l k = Pl.szL (List.drop x.1 l) x.2) ∧ (Is (intss l) (intss l) ∧ IntKind.i64.wrap (k - (↑l.length : Int)) = x.2 ∧ (0 : Int) = (↑x.1 : Int) ∧ True) ∧ True) ∧ ∀ (x : Nat × Int),
 x.1 ≤ l.length ∧ Fu x.2 ∧ Pl.szSS l k = Pl.szL (List.drop x.1 l) x.2 →
 condP (decide ((↑x.1 : Int) < (↑l.length : Int)))
 (((0 : Int) ≤ (↑x.1 : Int) ∧ (↑x.1 : Int) < (↑l.length : Int)) ∧ x.1 < l.length ∧ ∃ x_1 : List Int × Int,
 (Is (ints (l.getD x.1 [])) (ints x_1.1) ∧ x.2 = x_1.2 ∧ True) ∧ (Ml x_1.1 ∧ Fu x_1.2) ∧ condP (decide (Pl.sz1 x_1.1.length x_1.2 < (0 : Int))) ((-1 : Int) = Pl.szSS l k)
 (Exists fun (x' : Nat × Int) =>
 (x'.1 ≤ l.length ∧ Fu x'.2 ∧ Pl.szSS l k = Pl.szL (List.drop x'.1 l) x'.2) ∧ l.length - x'.1 < l.length - x.1 ∧ (Is (intss l) (intss l) ∧ Pl.sz1 x_1.1.length x_1.2 = x'.2 ∧ IntKind.i64.wrap ((↑x.1 : Int) + (1 : Int)) = (↑x'.1 : Int) ∧ True) ∧ True))
 (x.2 = Pl.szSS l k))) = Goal Tryd.prog [K_szIntS] (A_szIntSS l k) K_szIntSS.1 K_szIntSS.2 ((l, k)) := by kernel_rfl

theorem vc_toIntSS (l : List (List Int)) : ((0 : Int) ≤ (↑l.length : Int) ∧ (↑l.length : Int) ≤ (↑l.length : Int) ∧ (↑(24 : Nat) : Int) * (↑l.length : Int) ≤ (140737488355328 : Int) ∧ (↑l.length : Int) ≤ (140737488355328 : Int) ∧ (Exists fun (x : Nat × List (List Int)) =>
 (x.1 ≤ l.length ∧ x.2.length = l.length ∧ List.take x.1 x.2 = List.take x.1 l) ∧ (Is (intss l) (intss l) ∧ ((0 : Nat) = (0 : Nat) ∧ l.length = x.2.length) ∧ (0 : Int) = (↑x.1 : Int) ∧ True) ∧ IsO (AObj.arr l.length (1 : Nat) fun (x j : Nat) => [AV.lit (0 : Nat) (1 : Nat) fun (x x_1 : Nat) => AV.any].getD j AV.any) (arII x.2) ∧ True) ∧ ∀ (x : Nat × List (List Int)),
 x.1 ≤ l.length ∧ x.2.length = l.length ∧ List.take x.1 x.2 = List.take x.1 l →
 condP (decide ((↑x.1 : Int) < (↑l.length : Int)))
 (((0 : Int) ≤ (↑x.1 : Int) ∧ (↑x.1 : Int) < (↑l.length : Int)) ∧ x.1 < l.length ∧ ∃ x_1 : List Int,
 (Is (ints (l.getD x.1 [])) (ints x_1) ∧ True) ∧ Sz x_1 ∧ ((0 : Int) ≤ (↑x.1 : Int) ∧ (↑x.1 : Int) < (↑x.2.length : Int)) ∧ x.1 < x.2.length ∧ Exists fun (x' : Nat × List (List Int)) =>
 (x'.1 ≤ l.length ∧ x'.2.length = l.length ∧ List.take x'.1 x'.2 = List.take x'.1 l) ∧ l.length - x'.1 < l.length - x.1 ∧ (Is (intss l) (intss l) ∧ ((0 : Nat) = (0 : Nat) ∧ x.2.length = x'.2.length) ∧ IntKind.i64.wrap ((↑x.1 : Int) + (1 : Int)) = (↑x'.1 : Int) ∧ True) ∧ IsO (AObj.arr x.2.length (1 : Nat) (storeC (cII x.2) x.1 (0 : Nat) [ints x_1])) (arII x'.2) ∧ True)
 ((0 : Nat) + x.2.length ≤ x.2.length ∧ Is (intss x.2) (intss l))) = Goal Tryd.prog [K_toIntS] (A_toIntSS l) K_toIntSS.1 K_toIntSS.2 (l) := by kernel_rfl

theorem vc_eqIntSS (l m : List (List Int)) : (condP ((↑l.length : Int) != (↑m.length : Int)) (false = decide (l = m))
 ((∃ x : Nat,
 (x ≤ l.length ∧ l.length = m.length ∧ (l = m ↔ List.drop x l = List.drop x m)) ∧ (Is (intss l) (intss l) ∧ Is (intss m) (intss m) ∧ (0 : Int) = (↑x : Int) ∧ True) ∧ True) ∧ ∀ (x : Nat),
 x ≤ l.length ∧ l.length = m.length ∧ (l = m ↔ List.drop x l = List.drop x m) →
 condP (decide ((↑x : Int) < (↑l.length : Int)))
 (((0 : Int) ≤ (↑x : Int) ∧ (↑x : Int) < (↑l.length : Int)) ∧ x < l.length ∧ ((0 : Int) ≤ (↑x : Int) ∧ (↑x : Int) < (↑m.length : Int)) ∧ x < m.length ∧ ∃ x_1 : List Int × List Int,
 (Is (ints (l.getD x [])) (ints x_1.1) ∧ Is (ints (m.getD x [])) (ints x_1.2) ∧ True) ∧ Sz x_1.1 ∧ condP (!decide (x_1.1 = x_1.2)) (false = decide (l = m))
 (Exists fun (x' : Nat) =>
 (x' ≤ l.length ∧ l.length = m.length ∧ (l = m ↔ List.drop x' l = List.drop x' m)) ∧ l.length - x' < l.length - x ∧ (Is (intss l) (intss l) ∧ Is (intss m) (intss m) ∧ IntKind.i64.wrap ((↑x : Int) + (1 : Int)) = (↑x' : Int) ∧ True) ∧ True))
 (true = decide (l = m)))) = Goal Tryd.prog [K_eqIntS] (A_eqIntSS l m) K_eqIntSS.1 K_eqIntSS.2 ((l, m)) := by kernel_rfl

end Cg

/-
  What is left to show of each function's code, printed by a program: Clause. No condition.
-/
set_option maxRecDepth 100000
set_option linter.unusedVariables false
namespace Cg
open Go Go.Proofs
theorem vc_l10Abs (x : Int) : (condP (decide (x < (-60 : Int))) ((61 : Int) = Pl.absW x)
 (condP (decide (x > (60 : Int))) ((61 : Int) = Pl.absW x) (condP (decide (x < (0 : Int))) (IntKind.i64.wrap ((0 : Int) - x) = Pl.absW x) (x = Pl.absW x)))) = Goal Tryd.prog [] ([]) K_l10Abs.1 K_l10Abs.2 (x) := by kernel_rfl

theorem vc_within (x y z : Int) : (condP (decide (y ≤ x)) (decide (x ≤ z) = Pl.withinI x y z) (false = Pl.withinI x y z)) = Goal Tryd.prog [] ([]) K_within.1 K_within.2 ((x, y, z)) := by kernel_rfl

theorem vc_isMark (x y : Int) : (condP (x != (0 : Int))
 (∃ x_1 : Int × Int × Int,
 (x = x_1.1 ∧ IntKind.i64.wrap ((0 : Int) - y) = x_1.2.1 ∧ y = x_1.2.2 ∧ True) ∧ True ∧ Pl.withinI x_1.1 x_1.2.1 x_1.2.2 = Pl.isMark x y)
 (false = Pl.isMark x y)) = Goal Tryd.prog [K_within] ([]) K_isMark.1 K_isMark.2 ((x, y)) := by kernel_rfl

theorem vc_variable (x : Int) : ((if IntKind.i64.wrap ((0 : Int) - x) > x then IntKind.i64.wrap ((0 : Int) - x) else x) = Pl.varI x) = Goal Tryd.prog [] ([]) K_variable.1 K_variable.2 (x) := by kernel_rfl

theorem vc_sClauseOk (l : List Int) (many : Int) : ((∃ x : Nat × Int,
 (x.1 ≤ l.length ∧ Pl.specClause l many = Pl.specLoop many x.2 (List.drop x.1 l)) ∧ (Is (ints l) (ints l) ∧ many = many ∧ (0 : Int) = x.2 ∧ (0 : Int) = (↑x.1 : Int) ∧ True) ∧ True) ∧ ∀ (x : Nat × Int),
 x.1 ≤ l.length ∧ Pl.specClause l many = Pl.specLoop many x.2 (List.drop x.1 l) →
 condP (decide ((↑x.1 : Int) < (↑l.length : Int)))
 (((0 : Int) ≤ (↑x.1 : Int) ∧ (↑x.1 : Int) < (↑l.length : Int)) ∧ x.1 < l.length ∧ ∃ x_1 : Int,
 (l.getD x.1 (0 : Int) = x_1 ∧ True) ∧ True ∧ condP (decide (Pl.absW x_1 ≤ x.2)) (false = Pl.specClause l many)
 (((0 : Int) ≤ (↑x.1 : Int) ∧ (↑x.1 : Int) < (↑l.length : Int)) ∧ x.1 < l.length ∧ ∃ x_2 : Int,
 (l.getD x.1 (0 : Int) = x_2 ∧ True) ∧ True ∧ condP (decide (Pl.absW x_2 > many)) (false = Pl.specClause l many)
 (((0 : Int) ≤ (↑x.1 : Int) ∧ (↑x.1 : Int) < (↑l.length : Int)) ∧ x.1 < l.length ∧ ∃ x_3 : Int,
 (l.getD x.1 (0 : Int) = x_3 ∧ True) ∧ True ∧ Exists fun (x' : Nat × Int) =>
 (x'.1 ≤ l.length ∧ Pl.specClause l many = Pl.specLoop many x'.2 (List.drop x'.1 l)) ∧ l.length - x'.1 < l.length - x.1 ∧ (Is (ints l) (ints l) ∧ many = many ∧ Pl.absW x_3 = x'.2 ∧ IntKind.i64.wrap ((↑x.1 : Int) + (1 : Int)) = (↑x'.1 : Int) ∧ True) ∧ True)))
 (condP (decide (many ≥ (0 : Int))) (decide (many ≤ (60 : Int)) = Pl.specClause l many) (false = Pl.specClause l many))) = Goal Tryd.prog [K_l10Abs] (A_sClauseOk l many) K_sClauseOk.1 K_sClauseOk.2 ((l, many)) := by kernel_rfl

theorem vc_iClauseOk (l : List Int) (many : Int) : (∃ x : Int × Int × Int,
 (many = x.1 ∧ (0 : Int) = x.2.1 ∧ (60 : Int) = x.2.2 ∧ True) ∧ True ∧ condP (!Pl.withinI x.1 x.2.1 x.2.2) (false = Pl.implClause l many)
 ((∃ x : Nat,
 (x ≤ l.length ∧ Pl.implClause l many = Pl.implLoop many (Pl.prev l x) (List.drop x l)) ∧ (Is (ints l) (ints l) ∧ many = many ∧ Is (ints l) (ints l) ∧ (↑l.length : Int) = (↑l.length : Int) ∧ (0 : Int) = (↑x : Int) ∧ True) ∧ True) ∧ ∀ (x : Nat),
 x ≤ l.length ∧ Pl.implClause l many = Pl.implLoop many (Pl.prev l x) (List.drop x l) →
 condP (decide ((↑x : Int) < (↑l.length : Int)))
 (((0 : Int) ≤ (↑x : Int) ∧ (↑x : Int) < (↑l.length : Int)) ∧ x < l.length ∧ ∃ x_1 : Int × Int,
 (l.getD x (0 : Int) = x_1.1 ∧ many = x_1.2 ∧ True) ∧ True ∧ condP (!Pl.isMark x_1.1 x_1.2) (false = Pl.implClause l many)
 (condP (decide ((↑x : Int) > (0 : Int)))
 (((0 : Int) ≤ IntKind.i64.wrap ((↑x : Int) - (1 : Int)) ∧ IntKind.i64.wrap ((↑x : Int) - (1 : Int)) < (↑l.length : Int)) ∧ (IntKind.i64.wrap ((↑x : Int) - (1 : Int))).toNat < l.length ∧ ∃ x_2 : Int,
 (l.getD (IntKind.i64.wrap ((↑x : Int) - (1 : Int))).toNat (0 : Int) = x_2 ∧ True) ∧ True ∧ ∃ x_3 : Int,
 (l.getD x (0 : Int) = x_3 ∧ True) ∧ True ∧ condP (decide (Pl.varI x_2 ≥ Pl.varI x_3)) (false = Pl.implClause l many)
 (Exists fun (x' : Nat) =>
 (x' ≤ l.length ∧ Pl.implClause l many = Pl.implLoop many (Pl.prev l x') (List.drop x' l)) ∧ l.length - x' < l.length - x ∧ (Is (ints l) (ints l) ∧ many = many ∧ Is (ints l) (ints l) ∧ (↑l.length : Int) = (↑l.length : Int) ∧ IntKind.i64.wrap ((↑x : Int) + (1 : Int)) = (↑x' : Int) ∧ True) ∧ True))
 (Exists fun (x' : Nat) =>
 (x' ≤ l.length ∧ Pl.implClause l many = Pl.implLoop many (Pl.prev l x') (List.drop x' l)) ∧ l.length - x' < l.length - x ∧ (Is (ints l) (ints l) ∧ many = many ∧ Is (ints l) (ints l) ∧ (↑l.length : Int) = (↑l.length : Int) ∧ IntKind.i64.wrap ((↑x : Int) + (1 : Int)) = (↑x' : Int) ∧ True) ∧ True)))
 (true = Pl.implClause l many))) = Goal Tryd.prog [K_variable, K_isMark, K_within] (A_iClauseOk l many) K_iClauseOk.1 K_iClauseOk.2 ((l, many)) := by kernel_rfl

theorem vc_toIntS (l : List Int) : ((0 : Int) ≤ (↑l.length : Int) ∧ (↑l.length : Int) ≤ (↑l.length : Int) ∧ (↑(8 : Nat) : Int) * (↑l.length : Int) ≤ (140737488355328 : Int) ∧ (↑l.length : Int) ≤ (140737488355328 : Int) ∧ (∃ x : Nat × List Int,
 (x.1 ≤ l.length ∧ x.2.length = l.length ∧ List.take x.1 x.2 = List.take x.1 l) ∧ (Is (ints l) (ints l) ∧ ((0 : Nat) = (0 : Nat) ∧ l.length = x.2.length) ∧ (0 : Int) = (↑x.1 : Int) ∧ True) ∧ IsO (AObj.arr l.length (1 : Nat) fun (x j : Nat) => [i64 (0 : Int)].getD j AV.any) (arI x.2) ∧ True) ∧ ∀ (x : Nat × List Int),
 x.1 ≤ l.length ∧ x.2.length = l.length ∧ List.take x.1 x.2 = List.take x.1 l →
 condP (decide ((↑x.1 : Int) < (↑l.length : Int)))
 (((0 : Int) ≤ (↑x.1 : Int) ∧ (↑x.1 : Int) < (↑l.length : Int)) ∧ x.1 < l.length ∧ ((0 : Int) ≤ (↑x.1 : Int) ∧ (↑x.1 : Int) < (↑x.2.length : Int)) ∧ x.1 < x.2.length ∧ Exists fun (x' : Nat × List Int) =>
 (x'.1 ≤ l.length ∧ x'.2.length = l.length ∧ List.take x'.1 x'.2 = List.take x'.1 l) ∧ l.length - x'.1 < l.length - x.1 ∧ (Is (ints l) (ints l) ∧ ((0 : Nat) = (0 : Nat) ∧ x.2.length = x'.2.length) ∧ IntKind.i64.wrap ((↑x.1 : Int) + (1 : Int)) = (↑x'.1 : Int) ∧ True) ∧ IsO (AObj.arr x.2.length (1 : Nat) (storeC (cI x.2) x.1 (0 : Nat) [i64 (l.getD x.1 (0 : Int))])) (arI x'.2) ∧ True)
 ((0 : Nat) + x.2.length ≤ x.2.length ∧ Is (ints x.2) (ints l))) = Goal Tryd.prog [] (A_toIntS l) K_toIntS.1 K_toIntS.2 (l) := by kernel_rfl

theorem vc_eqIntS (l m : List Int) : (condP ((↑l.length : Int) != (↑m.length : Int)) (false = decide (l = m))
 ((∃ x : Nat,
 (x ≤ l.length ∧ l.length = m.length ∧ (l = m ↔ List.drop x l = List.drop x m)) ∧ (Is (ints l) (ints l) ∧ Is (ints m) (ints m) ∧ (0 : Int) = (↑x : Int) ∧ True) ∧ True) ∧ ∀ (x : Nat),
 x ≤ l.length ∧ l.length = m.length ∧ (l = m ↔ List.drop x l = List.drop x m) →
 condP (decide ((↑x : Int) < (↑l.length : Int)))
 (((0 : Int) ≤ (↑x : Int) ∧ (↑x : Int) < (↑l.length : Int)) ∧ x < l.length ∧ ((0 : Int) ≤ (↑x : Int) ∧ (↑x : Int) < (↑m.length : Int)) ∧ x < m.length ∧ condP (l.getD x (0 : Int) != m.getD x (0 : Int)) (false = decide (l = m))
 (Exists fun (x' : Nat) =>
 (x' ≤ l.length ∧ l.length = m.length ∧ (l = m ↔ List.drop x' l = List.drop x' m)) ∧ l.length - x' < l.length - x ∧ (Is (ints l) (ints l) ∧ Is (ints m) (ints m) ∧ IntKind.i64.wrap ((↑x : Int) + (1 : Int)) = (↑x' : Int) ∧ True) ∧ True))
 (true = decide (l = m)))) = Goal Tryd.prog [] (A_eqIntS l m) K_eqIntS.1 K_eqIntS.2 ((l, m)) := by kernel_rfl

end Cg

/-
  The codes' contracts: clauses. No condition.
-/
set_option linter.unusedVariables false
set_option linter.unusedSimpArgs false
set_option maxRecDepth 100000
namespace Cg
open Go Go.Proofs

theorem hm : Tryd.prog.follows .mixedOrders = true := by kernel_rfl

theorem k_l10Abs : SoundC Tryd.prog K_l10Abs.1 K_l10Abs.2 := sound_of hm CtxOK.nil (fun _ => []) (by kernel_rfl) fun (x : Int) _ => cast (vc_l10Abs x) (by
  simp only [condP_dec, Pl.absW, Pl.wneg]
  refine ⟨fun h => by rw [if_pos h], fun h => ⟨fun h' => by rw [if_neg h, if_pos h'], fun h' => ⟨fun h'' => by rw [if_neg h, if_neg h', if_pos h''], fun h'' => by rw [if_neg h, if_neg h', if_neg h'']⟩⟩⟩)

theorem k_within : SoundC Tryd.prog K_within.1 K_within.2 := sound_of hm CtxOK.nil (fun _ => []) (by kernel_rfl) fun ((x, y, z) : Int × Int × Int) _ => cast (vc_within x y z) (by
  simp [Pl.withinI]
  omega)

theorem k_isMark : SoundC Tryd.prog K_isMark.1 K_isMark.2 := sound_of hm (CtxOK.nil.and k_within) (fun _ => []) (by kernel_rfl) fun ((x, y) : Int × Int) _ => cast (vc_isMark x y) (by
  simp [Pl.isMark, Pl.wneg, and_assoc]
  exact ⟨fun h => by simp [h], fun h h' => absurd h h'⟩)

theorem k_variable : SoundC Tryd.prog K_variable.1 K_variable.2 := sound_of hm CtxOK.nil (fun _ => []) (by kernel_rfl) fun (x : Int) _ => cast (vc_variable x) rfl

theorem k_sClauseOk : SoundC Tryd.prog K_sClauseOk.1 K_sClauseOk.2 := sound_of hm (CtxOK.nil.and k_l10Abs) (fun (l, many) => A_sClauseOk l many) (by kernel_rfl) fun (l, many) hl => cast (vc_sClauseOk l many) (by
  replace hl : Sz l := hl
  simp [-List.getD_eq_getElem?_getD, and_assoc]
  refine ⟨⟨0, by simp, by simp [Pl.specClause]⟩, fun k last hk he => ⟨fun hlt => ?_, fun hge => ?_⟩⟩
  · rw [drop_get 0 hlt] at he
    refine ⟨hlt, fun h1 => ?_, fun h1 => ⟨hlt, fun h2 => ?_, fun h2 => ⟨hlt, k + 1, hlt, _, ?_, by omega, rfl, wrap_succ hlt hl⟩⟩⟩
    · rw [he]; simp [Pl.specLoop, h1, -List.getD_eq_getElem?_getD]
    · rw [he]; simp [Pl.specLoop, h2, -List.getD_eq_getElem?_getD]
    · rw [he]; simp [Pl.specLoop, -List.getD_eq_getElem?_getD, Int.not_le.2 h1, Int.not_lt.2 h2]
  · rw [drop_end (by omega)] at he
    rw [he]
    simp [Pl.specLoop]
    omega)

theorem prev_zero (l : List Int) : Pl.prev l 0 = none := rfl
theorem prev_pos (l : List Int) {k : Nat} (h : 0 < k) : Pl.prev l k = some (l.getD (k - 1) 0) := by
  unfold Pl.prev
  rw [if_neg (by omega)]

theorem k_iClauseOk : SoundC Tryd.prog K_iClauseOk.1 K_iClauseOk.2 := sound_of hm (((CtxOK.nil.and k_within).and k_isMark).and k_variable) (fun (l, many) => A_iClauseOk l many) (by kernel_rfl) fun (l, many) hl => cast (vc_iClauseOk l many) (by
  replace hl : Sz l := hl
  simp [-List.getD_eq_getElem?_getD, and_assoc]
  refine ⟨fun h => by simp [Pl.implClause, h], fun h => ⟨⟨0, by simp, by simp [Pl.implClause, h, prev_zero], rfl⟩, fun k hk he => ⟨fun hlt => ⟨hlt, ?_, ?_⟩, fun hge => ?_⟩⟩⟩
  · intro h1
    rw [he, drop_get 0 hlt]
    by_cases hk0 : k = 0
    · subst hk0; simp [prev_zero, Pl.implLoop, h1, -List.getD_eq_getElem?_getD]
    · simp [prev_pos l (Nat.pos_of_ne_zero hk0), Pl.implLoop, h1, -List.getD_eq_getElem?_getD]
  · intro h1
    rw [drop_get 0 hlt] at he
    refine ⟨fun h0 => ?_, fun h0 => ⟨k + 1, hlt, ?_, by omega, wrap_succ hlt hl⟩⟩
    · rw [wrap_small (by omega) (by omega)]
      have e : ((k : Int) - 1).toNat = k - 1 := by omega
      rw [e]
      rw [prev_pos l h0] at he
      refine ⟨by omega, by omega, by omega, fun h2 => ?_, fun h2 => ⟨k + 1, hlt, ?_, by omega, wrap_succ hlt hl⟩⟩
      · rw [he]; simp [Pl.implLoop, h1, h2, -List.getD_eq_getElem?_getD]
      · rw [he, prev_pos l (Nat.succ_pos k)]
        simp [Pl.implLoop, h1, Int.not_le.2 h2, -List.getD_eq_getElem?_getD]
    · subst h0
      rw [he, prev_pos l (Nat.succ_pos _)]
      simp [Pl.implLoop, h1, prev_zero, -List.getD_eq_getElem?_getD]
  · rw [he, drop_end (by omega)]
    cases Pl.prev l k <;> rfl)

theorem copy_step {α : Type} (d : α) {l b : List α} {k : Nat} (hk : k < l.length) (hb : b.length = l.length) (ht : b.take k = l.take k) : (b.set k (l.getD k d)).take (k + 1) = l.take (k + 1) := by
  refine List.ext_getElem? fun i => ?_
  have hi := congrArg (fun x => x[i]?) ht
  simp only [List.getElem?_take] at hi ⊢
  by_cases h : i < k
  · rw [if_pos (by omega), if_pos (by omega), List.getElem?_set_ne (by omega)]
    rw [if_pos h, if_pos h] at hi
    exact hi
  · by_cases h' : i = k
    · subst h'
      rw [if_pos (by omega), if_pos (by omega), List.getElem?_set_self (by omega)]
      simp [hk]
    · rw [if_neg (by omega), if_neg (by omega)]
theorem copy_end {α : Type} {l b : List α} {k : Nat} (hk : l.length ≤ k) (hb : b.length = l.length) (ht : b.take k = l.take k) : b = l := by
  rwa [List.take_of_length_le (by omega), List.take_of_length_le (by omega)] at ht

theorem k_toIntS : SoundC Tryd.prog K_toIntS.1 K_toIntS.2 := sound_of hm CtxOK.nil A_toIntS (by kernel_rfl) fun (l : List Int) (hl : Sz l) => cast (vc_toIntS l) (by
  simp [-List.getD_eq_getElem?_getD, and_assoc]
  refine ⟨by omega, by omega, ⟨0, by simp, List.replicate l.length 0, by simp, by simp, by simp, by simp, ints_make⟩, fun k b hk hb ht => ⟨fun hlt => ⟨hlt, by omega, k + 1, hlt, b.set k (l.getD k 0), by simp [hb], copy_step 0 hlt hb ht, by omega, by simp, wrap_succ hlt hl, ints_set⟩, fun hge => copy_end hge hb ht⟩⟩)

theorem eq_step {α : Type} [DecidableEq α] (d : α) {l m : List α} {k : Nat} (hk : k < l.length) (hm : l.length = m.length) (he : l = m ↔ l.drop k = m.drop k) :
    (¬ l.getD k d = m.getD k d → ¬ l = m) ∧ (l.getD k d = m.getD k d → (l = m ↔ l.drop (k + 1) = m.drop (k + 1))) := by
  rw [drop_get d hk, drop_get (l := m) d (by omega)] at he
  exact ⟨fun h e => h (by have := he.1 e; injection this), fun h => by rw [he, h]; simp⟩

theorem k_eqIntS : SoundC Tryd.prog K_eqIntS.1 K_eqIntS.2 := sound_of hm CtxOK.nil (fun (l, m) => A_eqIntS l m) (by kernel_rfl) fun (l, m) hl => cast (vc_eqIntS l m) (by
  replace hl : Sz l := hl
  simp [-List.getD_eq_getElem?_getD, and_assoc]
  refine ⟨fun h e => h (by rw [e]), fun h => ⟨⟨0, by simp; omega⟩, fun k hk hlm he => ⟨fun hlt => ⟨hlt, by omega, (eq_step 0 hlt hlm he).1, fun h => ⟨k + 1, hlt, hlm, (eq_step 0 hlt hlm he).2 h, by omega, wrap_succ hlt hl⟩⟩, fun hge => ?_⟩⟩⟩
  rw [drop_end (by omega), drop_end (l := m) (by omega)] at he
  exact he.2 rfl)
end Cg

/-
  The plain law of clauses: both ways to tell one give the same. No condition.
-/
set_option linter.unusedVariables false
set_option linter.unusedSimpArgs false
namespace Pl
open Go

theorem wneg_small {x : Int} (h1 : -9223372036854775807 ≤ x) (h2 : x ≤ 9223372036854775807) : wneg x = -x := by
  unfold wneg
  rw [Cg.wrap_small (by omega) (by omega)]
  omega

theorem specLoop_out {many : Int} (h : ¬ (0 ≤ many ∧ many ≤ 60)) : ∀ (l : List Int) (last : Int), specLoop many last l = false
  | [], last => by
    simp only [specLoop]
    by_cases h1 : many ≥ 0
    · simp [h1]; omega
    · simp [h1]
  | x :: l, last => by
    simp only [specLoop, specLoop_out h l]
    cases (decide (absW x ≤ last) || decide (absW x > many)) <;> rfl

theorem isMark_iff {x many : Int} (h : 0 ≤ many ∧ many ≤ 60) : isMark x many = true ↔ x ≠ 0 ∧ -many ≤ x ∧ x ≤ many := by
  unfold isMark withinI
  rw [wneg_small (by omega) (by omega)]
  simp

theorem varI_eq {x : Int} (h : -60 ≤ x ∧ x ≤ 60) : varI x = if x < 0 then -x else x := by
  unfold varI
  rw [wneg_small (by omega) (by omega)]
  split <;> split <;> omega

theorem absW_eq {x : Int} : absW x = if x < -60 then 61 else if x > 60 then 61 else if x < 0 then -x else x := by
  unfold absW
  split
  · rfl
  split
  · rfl
  split
  · rw [wneg_small (by omega) (by omega)]
  · rfl

theorem loops_none {many : Int} (h : 0 ≤ many ∧ many ≤ 60) : ∀ (l : List Int) (p : Int), (-60 ≤ p ∧ p ≤ 60) → specLoop many (varI p) l = implLoop many (some p) l
  | [], p, hp => by
    simp only [specLoop, implLoop]
    have h1 : decide (many ≥ 0) = true := decide_eq_true h.1
    have h2 : decide (many ≤ 60) = true := decide_eq_true h.2
    rw [h1, h2]; rfl
  | x :: l, p, hp => by
    simp only [specLoop, implLoop]
    have hv := varI_eq hp
    cases hm : isMark x many
    · have hn : ¬ (x ≠ 0 ∧ -many ≤ x ∧ x ≤ many) := fun e => by rw [(isMark_iff h).2 e] at hm; cases hm
      have : absW x ≤ varI p ∨ absW x > many := by
        rw [absW_eq, hv]
        (repeat' split) <;> omega
      have : (decide (absW x ≤ varI p) || decide (absW x > many)) = true := by simpa using this
      rw [this]; rfl
    · have hx := (isMark_iff h).1 hm
      have e : absW x = varI x := by
        rw [absW_eq, varI_eq (by omega)]
        (repeat' split) <;> omega
      have e2 : decide (absW x > many) = false := decide_eq_false (by rw [e, varI_eq (by omega)]; split <;> omega)
      rw [e2, e]
      simp only [Bool.or_false, Bool.not_true, Bool.false_or]
      rw [loops_none h l x (by omega)]

theorem clause_same (l : List Int) (many : Int) : implClause l many = specClause l many := by
  unfold implClause specClause
  by_cases h : 0 ≤ many ∧ many ≤ 60
  · have hw : withinI many 0 60 = true := by simp [withinI, h.1, h.2]
    rw [hw]
    simp only [cond_true]
    cases l with
    | nil =>
      simp only [specLoop, implLoop]
      have h1 : decide (many ≥ 0) = true := decide_eq_true h.1
      have h2 : decide (many ≤ 60) = true := decide_eq_true h.2
      rw [h1, h2]; rfl
    | cons x l =>
      simp only [specLoop, implLoop]
      cases hm : isMark x many
      · have hn : ¬ (x ≠ 0 ∧ -many ≤ x ∧ x ≤ many) := fun e => by rw [(isMark_iff h).2 e] at hm; cases hm
        have : absW x ≤ 0 ∨ absW x > many := by
          rw [absW_eq]
          (repeat' split) <;> omega
        have : (decide (absW x ≤ 0) || decide (absW x > many)) = true := by simpa using this
        rw [this]; rfl
      · have hx := (isMark_iff h).1 hm
        have e : absW x = varI x := by
          rw [absW_eq, varI_eq (by omega)]
          (repeat' split) <;> omega
        have e2 : decide (absW x > many) = false := decide_eq_false (by rw [e, varI_eq (by omega)]; split <;> omega)
        have e3 : decide (absW x ≤ 0) = false := decide_eq_false (by rw [e, varI_eq (by omega)]; split <;> omega)
        rw [e2, e3, e, loops_none h l x (by omega)]
        rfl
  · have hw : withinI many 0 60 = false := by
      simp only [withinI, Bool.and_eq_false_iff, decide_eq_false_iff_not]
      omega
    rw [hw, specLoop_out h]
    rfl
end Pl


/-
  The codes' contracts: rows of rows, values of marks. No condition.
-/
set_option linter.unusedVariables false
set_option linter.unusedSimpArgs false
set_option maxRecDepth 100000
namespace Cg
open Go Go.Proofs

theorem k_szIntS : SoundC Tryd.prog K_szIntS.1 K_szIntS.2 := sound_of hm CtxOK.nil (fun _ => []) (by kernel_rfl) fun (l, k) hl => cast (vc_szIntS l k) (by
  obtain ⟨h1, h2, h3⟩ : Ml l ∧ Fu k := hl
  rw [wrap_small (by omega) (by omega)]
  simp only [condP_dec, Pl.sz1]
  exact ⟨fun h => by rw [if_pos h], fun h => by rw [if_neg h]⟩)

theorem k_szIntSS : SoundC Tryd.prog K_szIntSS.1 K_szIntSS.2 := sound_of hm (CtxOK.nil.and k_szIntS) (fun (l, k) => A_szIntSS l k) (by kernel_rfl) fun (l, k) hl => cast (vc_szIntSS l k) (by
  obtain ⟨⟨h1, h2⟩, h3, h4⟩ : MlL l ∧ Fu k := hl
  rw [wrap_small (by omega) (by omega)]
  simp [-List.getD_eq_getElem?_getD, and_assoc]
  refine ⟨fun h => by rw [Pl.szSS, if_pos h], fun h => ⟨⟨0, by simp, _, by omega, by omega, by rw [Pl.szSS, if_neg (by omega)]; rfl, rfl, rfl⟩, fun i b hi h5 h6 he => ⟨fun hlt => ?_, fun hge => ?_⟩⟩⟩
  · rw [drop_get [] hlt] at he
    have hx := h2 (l.getD i []) (by simp [hlt])
    simp only [Pl.szL] at he
    refine ⟨hlt, hx, h5, h6, fun hn => ?_, fun hn => ⟨i + 1, hlt, _, ?_, ?_, ?_, by omega, rfl, by rw [wrap_small (by omega) (by omega)]; simp⟩⟩
    · rw [he]
      unfold Pl.sz1 at hn
      split at hn
      · rename_i h; rw [if_pos h]
      · omega
    · exact hn
    · simp only [Pl.sz1]; split <;> omega
    · rw [he]
      unfold Pl.sz1 at hn ⊢
      split at hn
      · omega
      · rename_i h; rw [if_neg h, if_neg h]
  · rw [he, drop_end (by omega)]
    rfl)

theorem k_toIntSS : SoundC Tryd.prog K_toIntSS.1 K_toIntSS.2 := sound_of hm (CtxOK.nil.and k_toIntS) A_toIntSS (by kernel_rfl) fun (l : List (List Int)) (hl : SzL l) => cast (vc_toIntSS l) (by
  obtain ⟨hl, h2⟩ := hl
  simp [-List.getD_eq_getElem?_getD, and_assoc]
  refine ⟨by omega, by omega, ⟨0, by simp, List.replicate l.length [], by simp, by simp, by simp, by simp, intss_make⟩, fun k b hk hb ht => ⟨fun hlt => ⟨hlt, h2 _ (by simp [hlt]), by omega, k + 1, hlt, b.set k (l.getD k []), by simp [hb], copy_step [] hlt hb ht, by omega, by simp, wrap_succ hlt hl, intss_set⟩, fun hge => copy_end hge hb ht⟩⟩)

theorem k_eqIntSS : SoundC Tryd.prog K_eqIntSS.1 K_eqIntSS.2 := sound_of hm (CtxOK.nil.and k_eqIntS) (fun (l, m) => A_eqIntSS l m) (by kernel_rfl) fun (l, m) hl => cast (vc_eqIntSS l m) (by
  obtain ⟨hl, h2⟩ : SzL l := hl
  simp [-List.getD_eq_getElem?_getD, and_assoc]
  refine ⟨fun h e => h (by rw [e]), fun h => ⟨⟨0, by simp; omega⟩, fun k hk hlm he => ⟨fun hlt => ⟨hlt, by omega, h2 _ (by simp [hlt]), (eq_step [] hlt hlm he).1, fun h => ⟨k + 1, hlt, hlm, (eq_step [] hlt hlm he).2 h, by omega, wrap_succ hlt hl⟩⟩, fun hge => ?_⟩⟩⟩
  rw [drop_end (by omega), drop_end (l := m) (by omega)] at he
  exact he.2 rfl)

theorem idx_lt {α : Type} (p : α → Bool) : ∀ l : List α, -1 ≤ Pl.idx p l
  | [] => by simp [Pl.idx]
  | x :: l => by have := idx_lt p l; simp only [Pl.idx]; split <;> (try split) <;> omega

/-- One round of slices.IndexFunc. -/
theorem idx_step {α : Type} (d : α) (p : α → Bool) {l : List α} {k : Nat} (hk : k < l.length) (he : Pl.idx p l = if Pl.idx p (l.drop k) < 0 then -1 else Pl.idx p (l.drop k) + k) :
    (p (l.getD k d) = true → (k : Int) = Pl.idx p l) ∧ (p (l.getD k d) = false → Pl.idx p l = if Pl.idx p (l.drop (k + 1)) < 0 then -1 else Pl.idx p (l.drop (k + 1)) + ((k + 1 : Nat) : Int)) := by
  rw [drop_get d hk] at he
  have := idx_lt p (l.drop (k + 1))
  refine ⟨fun h => ?_, fun h => ?_⟩
  · rw [he]; simp only [Pl.idx, h, if_true]; simp
  · rw [he]
    simp only [Pl.idx, h, Bool.false_eq_true, if_false]
    split
    · simp
    · split <;> omega
theorem idx_init {α : Type} (p : α → Bool) (l : List α) : Pl.idx p l = if Pl.idx p (l.drop 0) < 0 then -1 else Pl.idx p (l.drop 0) + ((0 : Nat) : Int) := by
  have := idx_lt p l
  simp only [List.drop_zero]
  split <;> omega
theorem idx_end {α : Type} (p : α → Bool) {l : List α} {k : Nat} (hk : l.length ≤ k) (he : Pl.idx p l = if Pl.idx p (l.drop k) < 0 then -1 else Pl.idx p (l.drop k) + k) : -1 = Pl.idx p l := by
  rw [he, drop_end (by omega)]; simp [Pl.idx]

theorem idx_any {α : Type} (p : α → Bool) : ∀ l : List α, decide (Pl.idx p l ≥ 0) = l.any p
  | [] => by simp [Pl.idx]
  | x :: l => by
    have h := idx_any p l
    have := idx_lt p l
    simp only [Pl.idx, List.any_cons]
    by_cases hp : p x = true
    · simp [hp]
    · simp only [hp, Bool.false_eq_true, if_false, Bool.false_or]
      rw [← h]
      by_cases hq : Pl.idx p l < 0
      · rw [if_pos hq, decide_eq_false (by omega), decide_eq_false (by omega)]
      · rw [if_neg hq, decide_eq_true (by omega), decide_eq_true (by omega)]

end Cg

/-
  The codes' contracts: words. No condition.
-/
set_option linter.unusedVariables false
set_option linter.unusedSimpArgs false
set_option maxRecDepth 100000
namespace Pl
open Go Cg
end Pl
namespace Cg
open Go Go.Proofs Pl

theorem SmG.len {s : Sig} (h : SmG s) : s.length ≤ 1048576 := by
  have h1 : s.length + sumN costY s ≤ 1048576 := h
  omega

end Cg

/-
  The codes' contracts: terms. No condition.
-/
set_option linter.unusedVariables false
set_option linter.unusedSimpArgs false
set_option maxRecDepth 100000
set_option maxHeartbeats 4000000
namespace Pl
open Go Cg
end Pl
namespace Cg
open Go Go.Proofs Pl
theorem SmTs.len {l : List Tm} (h : SmTs l) : l.length ≤ 1048576 := by
  have h1 : l.length + costTs l ≤ 1048576 := h
  omega
theorem SmT.kids {v : ByteArray} {ks : List Tm} (h : SmT (.mk v ks)) : SmTs ks := by
  have h1 : costT (.mk v ks) ≤ 1048576 := h
  rw [costT_eq] at h1
  simp only [Tree.val, Tree.kids] at h1
  show ks.length + costTs ks ≤ 1048576
  omega

end Cg

/-
  The codes' contracts: the sorts of terms. No condition.
-/
set_option linter.unusedVariables false
set_option linter.unusedSimpArgs false
set_option maxRecDepth 100000
set_option maxHeartbeats 1000000
namespace Pl
open Go Cg
end Pl
namespace Cg
open Go Go.Proofs Pl

end Cg

/-
  The codes' contracts: models: sizes, copies, equality. No condition.
-/
set_option linter.unusedVariables false
set_option linter.unusedSimpArgs false
set_option maxRecDepth 100000
set_option maxHeartbeats 1000000
namespace Cg
open Go Go.Proofs Pl
theorem SmM.len {m : Mdl} (h : SmM m) : m.length ≤ 1048576 := by
  have h1 : m.length + sumN costR m ≤ 1048576 := h
  omega

end Cg

/-
  The codes' contracts: valid models. No condition.
-/
set_option linter.unusedVariables false
set_option linter.unusedSimpArgs false
set_option maxRecDepth 100000
set_option maxHeartbeats 1000000
namespace Pl
open Go Cg
end Pl
namespace Cg
open Go Go.Proofs Pl

end Cg

/-
  The codes' contracts: the values of terms. No condition.
-/
set_option linter.unusedVariables false
set_option linter.unusedSimpArgs false
set_option maxRecDepth 100000
set_option maxHeartbeats 1000000
namespace Pl
open Go Cg
theorem take_getD {α : Type} (d : α) {l : List α} {i : Nat} (h : i < l.length) : l.take (i + 1) = l.take i ++ [l.getD i d] := by
  rw [List.take_succ_eq_append_getElem h]; simp [h]
end Pl
namespace Cg
open Go Go.Proofs Pl

end Cg

/-
  The library functions' contracts at this program, laid by the kit's own programs (lay-shelf, lay-plain). No condition.
-/
namespace Go.Proofs
open Go.Shelf
def Tryd.lays169_ren : Go.Shelf.Ren := ⟨fun | 169 => 71 | n => n, fun | 70 => 105 | 9 => 9 | 0 => 0 | 72 => 107 | 37 => 47 | 127 => 143 | 3 => 3 | 5 => 5 | n => n, fun | n => n⟩
theorem Tryd.lays169 : Go.Proofs.Lays.n169 Tryd.prog Tryd.lays169_ren := {
  mixed := by kernel_rfl
  f169 := Tryd.func71.trans (congrArg some (by kernel_rfl))
  t0 := Tryd.underlying0
  a0 := Tryd.isAgg0
  z0 := Tryd.sizeOf0
  v0 := Tryd.zeroValue0
  t3 := Tryd.underlying3
  a3 := Tryd.isAgg3
  z3 := Tryd.sizeOf3
  v3 := Tryd.zeroValue3
  t9 := Tryd.underlying9
  a9 := Tryd.isAgg9
  z9 := Tryd.sizeOf9
  v9 := Tryd.zeroValue9
  t37 := Tryd.underlying47
  a37 := Tryd.isAgg47
  z37 := Tryd.sizeOf47
  v37 := Tryd.zeroValue47
  t70 := Tryd.underlying105
  a70 := Tryd.isAgg105
  z70 := Tryd.sizeOf105
  v70 := Tryd.zeroValue105
  t72 := Tryd.underlying107
  a72 := Tryd.isAgg107
  z72 := Tryd.sizeOf107
  v72 := Tryd.zeroValue107
  t127 := Tryd.underlying143
  a127 := Tryd.isAgg143
  z127 := Tryd.sizeOf143
  v127 := Tryd.zeroValue143 }
theorem Tryd.Builder_Extra_169 : Builder.Extra Tryd.prog Tryd.lays169_ren := {
  sizeBuilder := by kernel_rfl
  liesBuilder := by kernel_rfl
  t5 := Tryd.underlying5
  a5 := Tryd.isAgg5
  z5 := Tryd.sizeOf5
  v5 := Tryd.zeroValue5
  infoByte := by kernel_rfl
  cellsByte := by kernel_rfl
  sizeByte := by kernel_rfl
  neB5 := by decide }
open Go.RowKit in
theorem Tryd.Builder_String_any (B b : Nat) (l : List UInt8) (w : World) (h : Lib.IsBuilder 107 5 B b (Lib.byteCells l) w) (hBw : B ≤ w.heap.size) :
    Calls Tryd.prog 71 #[.pointer (some ⟨b, 0, none⟩)] w fun e w' => e = .returned (.string ⟨l.toArray⟩) ∧ Below B w w' := Any.Builder_String_any Tryd.lays169 Tryd.Builder_Extra_169 B b l w h hBw
def Tryd.lays156_ren : Go.Shelf.Ren := ⟨fun | 156 => 119 | 165 => 149 | 166 => 69 | 169 => 71 | 240 => 104 | 241 => 157 | 276 => 131 | 277 => 162 | n => n, fun | 31 => 157 | 9 => 9 | 3 => 3 | 4 => 4 | 0 => 0 | 20 => 20 | 72 => 107 | 76 => 110 | 70 => 105 | 37 => 47 | 75 => 109 | 127 => 143 | 164 => 164 | 5 => 5 | 80 => 112 | n => n, fun | n => n⟩
theorem Tryd.lays156 : Go.Proofs.Lays.n156 Tryd.prog Tryd.lays156_ren := {
  mixed := by kernel_rfl
  f156 := Tryd.func119.trans (congrArg some (by kernel_rfl))
  f165 := Tryd.func149.trans (congrArg some (by kernel_rfl))
  f166 := Tryd.func69.trans (congrArg some (by kernel_rfl))
  f169 := Tryd.func71.trans (congrArg some (by kernel_rfl))
  f240 := Tryd.func104.trans (congrArg some (by kernel_rfl))
  f241 := Tryd.func157.trans (congrArg some (by kernel_rfl))
  f276 := Tryd.func131.trans (congrArg some (by kernel_rfl))
  f277 := Tryd.func162.trans (congrArg some (by kernel_rfl))
  t0 := Tryd.underlying0
  a0 := Tryd.isAgg0
  z0 := Tryd.sizeOf0
  v0 := Tryd.zeroValue0
  t3 := Tryd.underlying3
  a3 := Tryd.isAgg3
  z3 := Tryd.sizeOf3
  v3 := Tryd.zeroValue3
  t4 := Tryd.underlying4
  a4 := Tryd.isAgg4
  z4 := Tryd.sizeOf4
  v4 := Tryd.zeroValue4
  t9 := Tryd.underlying9
  a9 := Tryd.isAgg9
  z9 := Tryd.sizeOf9
  v9 := Tryd.zeroValue9
  t20 := Tryd.underlying20
  a20 := Tryd.isAgg20
  z20 := Tryd.sizeOf20
  v20 := Tryd.zeroValue20
  t31 := Tryd.underlying157
  a31 := Tryd.isAgg157
  z31 := Tryd.sizeOf157
  v31 := Tryd.zeroValue157
  t37 := Tryd.underlying47
  a37 := Tryd.isAgg47
  z37 := Tryd.sizeOf47
  v37 := Tryd.zeroValue47
  t70 := Tryd.underlying105
  a70 := Tryd.isAgg105
  z70 := Tryd.sizeOf105
  v70 := Tryd.zeroValue105
  t72 := Tryd.underlying107
  a72 := Tryd.isAgg107
  z72 := Tryd.sizeOf107
  v72 := Tryd.zeroValue107
  t75 := Tryd.underlying109
  a75 := Tryd.isAgg109
  z75 := Tryd.sizeOf109
  v75 := Tryd.zeroValue109
  t76 := Tryd.underlying110
  a76 := Tryd.isAgg110
  z76 := Tryd.sizeOf110
  v76 := Tryd.zeroValue110
  t127 := Tryd.underlying143
  a127 := Tryd.isAgg143
  z127 := Tryd.sizeOf143
  v127 := Tryd.zeroValue143
  t164 := Tryd.underlying164
  a164 := Tryd.isAgg164
  z164 := Tryd.sizeOf164
  v164 := Tryd.zeroValue164 }
theorem Tryd.Builder_Extra_156 : Builder.Extra Tryd.prog Tryd.lays156_ren := {
  sizeBuilder := by kernel_rfl
  liesBuilder := by kernel_rfl
  t5 := Tryd.underlying5
  a5 := Tryd.isAgg5
  z5 := Tryd.sizeOf5
  v5 := Tryd.zeroValue5
  infoByte := by kernel_rfl
  cellsByte := by kernel_rfl
  sizeByte := by kernel_rfl
  neB5 := by decide }
open Go.RowKit in
theorem Tryd.strings_Join (bk o c : Nat) (xs : List ByteArray) (sep : ByteArray) (w : World) (hcells : ∀ (j : Nat) x, xs[j]? = some x → w.cell? ⟨bk, o + j, none⟩ = some (.string x)) (hbk : bk < w.heap.size) (hN : xs.length ≤ 140737488355328) (hcap : xs.length ≤ c) (hlen : (Lib.join (xs.map (·.data.toList)) sep.data.toList).length ≤ 140737488355328) :
    Calls Tryd.prog 119 #[.slice (some ⟨bk, o, none⟩) xs.length c, .string sep] w fun e w' => e = .returned (.string ⟨(Lib.join (xs.map (·.data.toList)) sep.data.toList).toArray⟩) ∧ Below w.heap.size w w' := Any.strings_Join Tryd.lays156 Tryd.Builder_Extra_156 bk o c xs sep w hcells hbk hN hcap hlen
def Tryd.laysM171_ren : Go.Shelf.Ren := ⟨fun | 171 => 86 | 243 => 120 | 246 => 150 | 283 => 158 | 284 => 159 | 285 => 160 | 286 => 161 | 129 => 164 | 317 => 163 | 318 => 165 | 319 => 166 | 320 => 167 | 337 => 168 | 338 => 169 | n => n, fun | 3 => 3 | 9 => 9 | 2 => 2 | 4 => 4 | 171 => 181 | 0 => 0 | 53 => 182 | 37 => 47 | 5 => 5 | 173 => 185 | 212 => 189 | 51 => 190 | 20 => 20 | 213 => 191 | 46 => 192 | 232 => 195 | 233 => 196 | n => n, fun | 17 => 0 | 18 => 2 | 19 => 3 | n => n⟩
theorem Tryd.laysM171 : Go.Proofs.LaysM.n171 Tryd.prog Tryd.laysM171_ren := {
  mixed := by kernel_rfl
  f129 := Tryd.func164.trans (congrArg some (by kernel_rfl))
  f171 := Tryd.func86.trans (congrArg some (by kernel_rfl))
  f243 := Tryd.func120.trans (congrArg some (by kernel_rfl))
  f246 := Tryd.func150.trans (congrArg some (by kernel_rfl))
  f283 := Tryd.func158.trans (congrArg some (by kernel_rfl))
  f284 := Tryd.func159.trans (congrArg some (by kernel_rfl))
  f285 := Tryd.func160.trans (congrArg some (by kernel_rfl))
  f286 := Tryd.func161.trans (congrArg some (by kernel_rfl))
  f317 := Tryd.func163.trans (congrArg some (by kernel_rfl))
  f318 := Tryd.func165.trans (congrArg some (by kernel_rfl))
  f319 := Tryd.func166.trans (congrArg some (by kernel_rfl))
  f320 := Tryd.func167.trans (congrArg some (by kernel_rfl))
  f337 := Tryd.func168.trans (congrArg some (by kernel_rfl))
  f338 := Tryd.func169.trans (congrArg some (by kernel_rfl))
  t0 := Tryd.underlying0
  a0 := Tryd.isAgg0
  z0 := Tryd.sizeOf0
  v0 := Tryd.zeroValue0
  t2 := Tryd.underlying2
  a2 := Tryd.isAgg2
  z2 := Tryd.sizeOf2
  v2 := Tryd.zeroValue2
  t3 := Tryd.underlying3
  a3 := Tryd.isAgg3
  z3 := Tryd.sizeOf3
  v3 := Tryd.zeroValue3
  t4 := Tryd.underlying4
  a4 := Tryd.isAgg4
  z4 := Tryd.sizeOf4
  v4 := Tryd.zeroValue4
  t5 := Tryd.underlying5
  a5 := Tryd.isAgg5
  z5 := Tryd.sizeOf5
  v5 := Tryd.zeroValue5
  t9 := Tryd.underlying9
  a9 := Tryd.isAgg9
  z9 := Tryd.sizeOf9
  v9 := Tryd.zeroValue9
  t20 := Tryd.underlying20
  a20 := Tryd.isAgg20
  z20 := Tryd.sizeOf20
  v20 := Tryd.zeroValue20
  t37 := Tryd.underlying47
  a37 := Tryd.isAgg47
  z37 := Tryd.sizeOf47
  v37 := Tryd.zeroValue47
  t46 := Tryd.underlying192
  a46 := Tryd.isAgg192
  z46 := Tryd.sizeOf192
  v46 := Tryd.zeroValue192
  t51 := Tryd.underlying190
  a51 := Tryd.isAgg190
  z51 := Tryd.sizeOf190
  v51 := Tryd.zeroValue190
  t53 := Tryd.underlying182
  a53 := Tryd.isAgg182
  z53 := Tryd.sizeOf182
  v53 := Tryd.zeroValue182
  t171 := Tryd.underlying181
  a171 := Tryd.isAgg181
  z171 := Tryd.sizeOf181
  v171 := Tryd.zeroValue181
  t173 := Tryd.underlying185
  a173 := Tryd.isAgg185
  z173 := Tryd.sizeOf185
  v173 := Tryd.zeroValue185
  t212 := Tryd.underlying189
  a212 := Tryd.isAgg189
  z212 := Tryd.sizeOf189
  v212 := Tryd.zeroValue189
  t213 := Tryd.underlying191
  a213 := Tryd.isAgg191
  z213 := Tryd.sizeOf191
  t232 := Tryd.underlying195
  a232 := Tryd.isAgg195
  z232 := Tryd.sizeOf195
  v232 := Tryd.zeroValue195
  t233 := Tryd.underlying196
  a233 := Tryd.isAgg196
  z233 := Tryd.sizeOf196
  v233 := Tryd.zeroValue196
  g17 := by kernel_rfl
  g18 := by kernel_rfl
  g19 := by kernel_rfl
  i0 := by kernel_rfl
  i2 := by kernel_rfl
  i3 := by kernel_rfl
  i4 := by kernel_rfl
  i5 := by kernel_rfl
  i9 := by kernel_rfl
  i20 := by kernel_rfl
  i37 := by kernel_rfl
  i46 := by kernel_rfl
  i51 := by kernel_rfl
  i53 := by kernel_rfl
  i171 := by kernel_rfl
  i173 := by kernel_rfl
  i212 := by kernel_rfl
  i232 := by kernel_rfl
  i233 := by kernel_rfl
  m17 := by kernel_rfl
  m18 := by kernel_rfl
  m19 := by kernel_rfl }
open Go.RowKit Go.Sort Go.Lib in
theorem Tryd.strconv_Itoa (n : Int) (h0 : -9223372036854775808 ≤ n) (h1 : n ≤ 9223372036854775807) (w : World) (htab : Lib.TabIs Tryd.prog w "internal/strconv.uint64pow10" .u64 Lib.pow10Tab) :
    Calls Tryd.prog 86 #[.int .i64 n] w fun e w' => e = .returned (.string ⟨(Lib.itoa n).toArray⟩) ∧ ∃ k os, w' = grow (w.drewN k) os := Any.strconv_Itoa Tryd.laysM171 n h0 h1 w htab
def Tryd.lays166_ren : Go.Shelf.Ren := ⟨fun | 166 => 69 | 240 => 104 | 276 => 131 | n => n, fun | 0 => 0 | 3 => 3 | 4 => 4 | 5 => 5 | 9 => 9 | 20 => 20 | 37 => 47 | 70 => 105 | 72 => 107 | 75 => 109 | 80 => 112 | 164 => 164 | n => n, fun | n => n⟩
theorem Tryd.lays166 : Go.Proofs.Lays.n166 Tryd.prog Tryd.lays166_ren := {
  mixed := by kernel_rfl
  f166 := Tryd.func69.trans (congrArg some (by kernel_rfl))
  f240 := Tryd.func104.trans (congrArg some (by kernel_rfl))
  f276 := Tryd.func131.trans (congrArg some (by kernel_rfl))
  t0 := Tryd.underlying0
  a0 := Tryd.isAgg0
  z0 := Tryd.sizeOf0
  v0 := Tryd.zeroValue0
  t3 := Tryd.underlying3
  a3 := Tryd.isAgg3
  z3 := Tryd.sizeOf3
  v3 := Tryd.zeroValue3
  t4 := Tryd.underlying4
  a4 := Tryd.isAgg4
  z4 := Tryd.sizeOf4
  v4 := Tryd.zeroValue4
  t9 := Tryd.underlying9
  a9 := Tryd.isAgg9
  z9 := Tryd.sizeOf9
  v9 := Tryd.zeroValue9
  t20 := Tryd.underlying20
  a20 := Tryd.isAgg20
  z20 := Tryd.sizeOf20
  v20 := Tryd.zeroValue20
  t37 := Tryd.underlying47
  a37 := Tryd.isAgg47
  z37 := Tryd.sizeOf47
  v37 := Tryd.zeroValue47
  t70 := Tryd.underlying105
  a70 := Tryd.isAgg105
  z70 := Tryd.sizeOf105
  v70 := Tryd.zeroValue105
  t72 := Tryd.underlying107
  a72 := Tryd.isAgg107
  z72 := Tryd.sizeOf107
  v72 := Tryd.zeroValue107
  t75 := Tryd.underlying109
  a75 := Tryd.isAgg109
  z75 := Tryd.sizeOf109
  v75 := Tryd.zeroValue109
  t164 := Tryd.underlying164
  a164 := Tryd.isAgg164
  z164 := Tryd.sizeOf164
  v164 := Tryd.zeroValue164 }
theorem Tryd.Builder_Extra_166 : Builder.Extra Tryd.prog Tryd.lays166_ren := {
  sizeBuilder := by kernel_rfl
  liesBuilder := by kernel_rfl
  t5 := Tryd.underlying5
  a5 := Tryd.isAgg5
  z5 := Tryd.sizeOf5
  v5 := Tryd.zeroValue5
  infoByte := by kernel_rfl
  cellsByte := by kernel_rfl
  sizeByte := by kernel_rfl
  neB5 := by decide }
open Go.RowKit in
theorem Tryd.Builder_WriteString (B b : Nat) (bs : List Value) (s : ByteArray) (w : World) (h : Lib.IsBuilder 107 5 B b bs w) (hlen : bs.length + s.size ≤ 140737488355328) (hBw : B ≤ w.heap.size) :
    Calls Tryd.prog 69 #[.pointer (some ⟨b, 0, none⟩), .string s] w fun e w' => e = .returned (.tuple #[.int .i64 s.size, .nilIface]) ∧ (Lib.BuilderAt 107 5 B b (.pointer (some ⟨b, 0, none⟩)) (bs ++ Lib.strCells s) w' ∧ Below B w w') := Any.Builder_WriteString Tryd.lays166 Tryd.Builder_Extra_166 B b bs s w h hlen hBw
end Go.Proofs

/-
  The library's contracts: joined texts. No condition.
-/
set_option linter.unusedVariables false
set_option linter.unusedSimpArgs false
namespace Pl
open Go
end Pl
namespace Cg
open Go Go.Proofs Pl
end Cg

/-
  What is left to show of each function's code, printed by a program: Same. No condition.
-/
set_option maxRecDepth 100000
set_option linter.unusedVariables false
namespace Cg
open Go Go.Proofs
end Cg

/-
  What is left to show of each function's code, printed by a program: Cnf. No condition.
-/
set_option maxRecDepth 100000
set_option linter.unusedVariables false
namespace Cg
open Go Go.Proofs
end Cg

/-
  The codes' contracts: clause sets. No condition.
-/
set_option linter.unusedVariables false
set_option linter.unusedSimpArgs false
set_option maxRecDepth 100000
namespace Cg
open Go Go.Proofs

theorem szL_le : ∀ (l : List (List Int)) (k : Int), k ≤ 1048576 → 0 ≤ Pl.szL l k → ∀ x ∈ l, x.length ≤ 1048576
  | [], _, _, _, x, h => by cases h
  | y :: l, k, hk, h, x, hx => by
    simp only [Pl.szL] at h
    split at h
    · omega
    · rename_i hn
      cases List.mem_cons.1 hx with
      | inl e => subst e; omega
      | inr e => exact szL_le l (k - y.length) (by omega) h x e
theorem szSS_le {l : List (List Int)} {k : Int} (hk : k ≤ 1048576) (h : 0 ≤ Pl.szSS l k) : SzL l := by
  unfold Pl.szSS at h
  split at h
  · exact absurd h (by decide)
  · have := szL_le l (k - l.length) (by omega) (by omega)
    exact ⟨by omega, fun x hx => by have := this x hx; omega⟩
end Cg

/-
  The codes' contracts: atoms, formulas, explanations, cases: sizes, copies, equality. No condition.
-/
set_option linter.unusedVariables false
set_option linter.unusedSimpArgs false
set_option maxRecDepth 100000
set_option maxHeartbeats 1000000
namespace Cg
open Go Go.Proofs Pl
section
variable {α : Type} {f : α → Nat}
theorem SmTrs.len {l : List (Tree α)} (h : SmTrs f l) : l.length ≤ 1048576 := by
  have h1 : l.length + costTrs f l ≤ 1048576 := h
  omega
theorem SmTr.kids {v : α} {ks : List (Tree α)} (h : SmTr f (.mk v ks)) : SmTrs f ks := by
  have h1 : costTr f (.mk v ks) ≤ 1048576 := h
  rw [costTr_eq] at h1
  simp only [Tree.val, Tree.kids] at h1
  show ks.length + costTrs f ks ≤ 1048576
  omega
theorem SmTr.here {v : α} {ks : List (Tree α)} (h : SmTr f (.mk v ks)) : f v ≤ 1048576 := by
  have h1 : costTr f (.mk v ks) ≤ 1048576 := h
  rw [costTr_eq] at h1
  simp only [Tree.val, Tree.kids] at h1
  omega
end
theorem SmA.parts {x : Atm} (h : SmA x) : SmT (.mk x.2.1.1 x.2.1.2) ∧ SmT (.mk x.2.2.1.1 x.2.2.1.2) ∧ SmTs x.2.2.2.1 ∧ x.2.2.2.2.1.length ≤ 1048576 := by
  have h1 : costA x ≤ 1048576 := h
  unfold costA at h1
  refine ⟨?_, ?_, ?_, by omega⟩
  · show costT _ ≤ _; omega
  · show costT _ ≤ _; omega
  · show _ + _ ≤ _; omega

end Cg

/-
  The codes' contracts: valid atoms. No condition.
-/
set_option linter.unusedVariables false
set_option linter.unusedSimpArgs false
set_option maxRecDepth 100000
set_option maxHeartbeats 1000000
namespace Pl
open Go Cg
theorem textBs_map : ∀ l : List Tm, textBs l = l.map textB
  | [] => rfl
  | t :: ts => by simp only [textBs, List.map_cons, textBs_map ts]
theorem interL_len (sep : List UInt8) (h1 : sep.length = 1) : ∀ ts : List (List UInt8), (interL sep ts).length ≤ sumN List.length ts + ts.length - 1
  | [] => by simp [interL]
  | [x] => by simp [interL, sumN]
  | x :: y :: r => by
    have := interL_len sep h1 (y :: r)
    simp only [interL, List.length_append, sumN, List.length_cons] at this ⊢
    omega
theorem textB_mk (v : ByteArray) (ks : List Tm) : textB (.mk v ks) = if ks = [] then bl' v else spellB (bl' v) (textBs ks) ++ [41] := by
  rw [textB]
  cases ks with
  | nil => rfl
  | cons k r => simp [spellB, textBs]
mutual
theorem textB_len : ∀ t : Tm, (textB t).length ≤ 2 * costT t
  | .mk v ks => by
    have h := textBs_len ks
    have hl := interL_len [44] rfl (textBs ks)
    have hm : (textBs ks).length = ks.length := by rw [textBs_map]; simp
    rw [textB_mk]
    rw [costT]
    have e : (bl' v).length = v.size := rfl
    by_cases h0 : ks = []
    · rw [if_pos h0]; omega
    · rw [if_neg h0]
      have hp : 0 < ks.length := by cases ks with
        | nil => exact absurd rfl h0
        | cons _ _ => simp
      have hq : (textBs ks).isEmpty = false := by cases hh : textBs ks with
        | nil => rw [hh] at hm; simp at hm; omega
        | cons _ _ => rfl
      unfold spellB
      rw [hq]
      simp only [Bool.false_eq_true, if_false, List.length_append, List.length_singleton]
      omega
theorem textBs_len : ∀ l : List Tm, sumN List.length (textBs l) ≤ 2 * costTs l
  | [] => by simp [textBs, sumN]
  | t :: ts => by
    have h1 := textB_len t
    have h2 := textBs_len ts
    simp only [textBs, sumN, costTs]
    omega
end
@[simp] theorem mkB_list (l : List UInt8) : (mkB l).data.toList = l := rfl
@[simp] theorem mkB_size (l : List UInt8) : (mkB l).size = l.length := rfl
end Pl
namespace Cg
open Go Go.Proofs Pl
end Cg

/-
  What is left to show of each function's code, printed by a program: Lit. No condition.
-/
set_option maxRecDepth 100000
set_option linter.unusedVariables false
namespace Cg
open Go Go.Proofs
end Cg

/-
  The codes' contracts: lists of literals: sizes, copies, equality. No condition.
-/
set_option linter.unusedVariables false
set_option linter.unusedSimpArgs false
set_option maxRecDepth 100000
set_option maxHeartbeats 1000000
namespace Cg
open Go Go.Proofs Pl
theorem SmLs.len {l : List Ltr} (h : SmLs l) : l.length ≤ 1048576 := by
  have h1 : l.length + sumN costL l ≤ 1048576 := h
  omega
end Cg

/-
  The codes' contracts: texts. No condition.
-/
set_option linter.unusedVariables false
set_option linter.unusedSimpArgs false
set_option maxRecDepth 100000
namespace Pl
open Go Cg
theorem bapp (a b : List UInt8) : mkB a ++ mkB b = mkB (a ++ b) := by
  apply ByteArray.ext
  rw [ByteArray.data_append]
  apply Array.toList_inj.1
  rw [Array.toList_append]
  rfl
theorem lit0 : ByteArray.mk #[] = mkB [] := rfl
theorem lit1 (a : UInt8) : ByteArray.mk #[a] = mkB [a] := rfl
theorem lit2 (a b : UInt8) : ByteArray.mk #[a, b] = mkB [a, b] := rfl
theorem lit3 (a b c : UInt8) : ByteArray.mk #[a, b, c] = mkB [a, b, c] := rfl
theorem lit4 (a b c d : UInt8) : ByteArray.mk #[a, b, c, d] = mkB [a, b, c, d] := rfl
theorem dec_eq (n : Int) : dec n = mkB (itoa n) := rfl
theorem textT_eq (t : Tm) : textT t = mkB (textB t) := rfl
theorem byteS_eq (x : Int) : byteS x = mkB [UInt8.ofNat x.toNat] := rfl
theorem mkB_inj {a b : List UInt8} : mkB a = mkB b ↔ a = b := ⟨fun h => by
  have : (mkB a).data.toList = (mkB b).data.toList := by rw [h]
  exact this, fun h => by rw [h]⟩
theorem tx_no {ok : Bool} {l : List UInt8} (h : ok = false) : tx ok l = mkB [] := by unfold tx; rw [if_neg (by rw [h]; decide)]; rfl
theorem tx_yes {ok : Bool} {l : List UInt8} (h : ok = true) : tx ok l = mkB l := by unfold tx; rw [if_pos h]
theorem catB_step {α : Type} (d : α) (f : α → List UInt8) {l : List α} {k : Nat} (h : k < l.length) : catB f (l.take (k + 1)) = catB f (l.take k) ++ f (l.getD k d) := by
  rw [Pl.take_getD d h]
  simp [catB]
theorem catB_len {α : Type} (f : α → List UInt8) (c : Nat) : ∀ {l : List α}, (∀ x ∈ l, (f x).length ≤ c) → (catB f l).length ≤ l.length * c
  | [], _ => Nat.zero_le _
  | x :: xs, h => by
    have h1 := h x List.mem_cons_self
    have h2 := catB_len f c (l := xs) fun y hy => h y (List.mem_cons_of_mem _ hy)
    have e : catB f (x :: xs) = f x ++ catB f xs := rfl
    rw [e, List.length_append, List.length_cons, Nat.succ_mul]; omega
theorem catB_take {α : Type} (f : α → List UInt8) (c : Nat) {l : List α} (h : ∀ x ∈ l, (f x).length ≤ c) (k : Nat) : (catB f (l.take k)).length ≤ l.length * c := by
  have h1 := catB_len f c (l := l.take k) fun x hx => h x (List.mem_of_mem_take hx)
  have h2 : (l.take k).length * c ≤ l.length * c := Nat.mul_le_mul_right _ (by simp; omega)
  omega
theorem digits_len : ∀ (k u : Nat), u < 10 ^ (k + 1) → (Go.Lib.decDigits u).length ≤ k + 1
  | 0, u, h => by rw [Go.Lib.decDigits, dif_pos (by simpa using h)]; simp
  | k + 1, u, h => by
    rw [Go.Lib.decDigits]
    split
    · simp
    · have := digits_len k (u / 10) (by rw [Nat.pow_succ] at h; omega)
      simp; omega
theorem itoa_len {n : Int} (h : In64 n) : (itoa n).length ≤ 21 := by
  obtain ⟨h1, h2⟩ := h
  unfold itoa Go.Lib.itoa
  split
  · have := digits_len 19 n.natAbs (by omega)
    simp only [List.length_cons]; omega
  · have := digits_len 19 n.toNat (by omega)
    omega
theorem catB_all {α : Type} (f : α → List UInt8) {l : List α} {k : Nat} (h : l.length ≤ k) : catB f (l.take k) = catB f l := by rw [List.take_of_length_le h]
theorem specLoop_bd : ∀ (l : List Int) (last : Int), 0 ≤ last → last ≤ 60 → specLoop 60 last l = true → (l.length : Int) + last ≤ 60 ∧ ∀ x ∈ l, -60 ≤ x ∧ x ≤ 60
  | [], last, h0, h1, _ => by simp; omega
  | x :: xs, last, h0, h1, h => by
    simp only [specLoop, cond_eq_ite] at h
    split at h
    · cases h
    · rename_i hh
      simp only [Bool.or_eq_true, decide_eq_true_eq, not_or, Int.not_le, Int.not_lt, gt_iff_lt] at hh
      have ih := specLoop_bd xs (absW x) (by omega) (by omega) h
      have hx : -60 ≤ x ∧ x ≤ 60 := by
        have := hh.2
        unfold absW at this
        split at this
        · omega
        · split at this <;> omega
      refine ⟨by simp only [List.length_cons]; omega, fun y hy => ?_⟩
      rcases List.mem_cons.1 hy with e | e
      · subst e; exact hx
      · exact ih.2 y e
theorem clause_bd {c : List Int} (h : specClause c 60 = true) : c.length ≤ 60 ∧ ∀ x ∈ c, In64 x := by
  have := specLoop_bd c 0 (by omega) (by omega) h
  exact ⟨by omega, fun x hx => ⟨by have := this.2 x hx; omega, by have := this.2 x hx; omega⟩⟩
theorem log_facts {l : List (List Int)} (h : logRight l = true) : l.length ≤ 130 ∧ ∀ c ∈ l, specClause c 60 = true := by
  simp only [logRight, Bool.and_eq_true, List.all_eq_true, decide_eq_true_eq] at h
  exact ⟨h.2, h.1⟩
theorem itoaS_len {c : List Int} (h : specClause c 60 = true) (k : Nat) : (catB itoaS (c.take k)).length ≤ 1320 := by
  obtain ⟨h1, h2⟩ := clause_bd h
  have := catB_take itoaS 22 (l := c) (fun n hn => by have := itoa_len (h2 n hn); unfold itoaS; simp; omega) k
  omega
theorem clauseB_len {c : List Int} (h : specClause c 60 = true) : (clauseB c).length ≤ 1322 := by
  have := itoaS_len h c.length
  rw [List.take_length] at this
  unfold clauseB
  simp only [List.length_append, List.length_cons, List.length_nil]
  omega
theorem logB_len {l : List (List Int)} (h : logRight l = true) (k : Nat) : (logB (l.take k)).length ≤ 171860 := by
  obtain ⟨h1, h2⟩ := log_facts h
  have := catB_take clauseB 1322 (l := l) (fun c hc => clauseB_len (h2 c hc)) k
  unfold logB
  omega
end Pl
namespace Cg
open Go Go.Proofs Pl
theorem Ext.grow (w : World) (k : Nat) (os : Array Obj) : Ext w (Go.Sort.grow (w.drewN k) os) := ⟨rfl, rfl, rfl, by show _ ≤ (w.heap ++ os).size; simp, fun b hb => by show (w.heap ++ os)[b]? = _; rw [Array.getElem?_append_left hb]⟩
theorem tab_pow {S : Nat → Prop} {w : World} (h : Gl S w) : Go.Lib.TabIs Tryd.prog w "internal/strconv.uint64pow10" .u64 Go.Lib.pow10Tab := by
  obtain ⟨h1, c, T, fr, h2, h3⟩ := h _ List.mem_cons_self
  unfold Go.Lib.TabIs World.var?
  rw [show Tryd.prog.globalNamed "internal/strconv.uint64pow10" = some 0 by kernel_rfl]
  have h2 : w.heap[(0 : Nat)]? = some (.cells c T fr) := h2
  have h3 : c = ((List.range 20).map fun i => Value.int .u64 ((10 ^ i : Nat) : Int)).toArray := h3
  simp only [Option.bind_some, h2, h3]
  unfold Go.Lib.pow10Tab
  rw [List.map_map]
  rfl
theorem k_Itoa : SoundC Tryd.prog K_Itoa.1 K_Itoa.2 := ⟨callable_of (by kernel_rfl), fun x hx S w vals hin hgl hrel => by
  obtain ⟨y0, r0, rfl, ha, hc⟩ := hrel
  cases hc
  have ha : y0 = .int .i64 x := ha
  subst ha
  exact (Tryd.strconv_Itoa x (Int.le_trans (by decide) hx.1) hx.2 w (tab_pow hgl)).mono fun e w' ⟨he, k, os, hw⟩ => by
    subst hw
    exact ⟨_, S, he, Ext.grow w k os, fun _ h => h, fun _ h => .inl h, fun b hb => Nat.lt_of_lt_of_le (hin b hb) (Ext.grow w k os).size, rfl⟩⟩
theorem digit_eq {m : Nat} (h : m < 10) : UInt8.ofNat (IntKind.u8.wrap (IntKind.i64.wrap (48 + (m : Int)))).toNat = UInt8.ofNat (48 + m) := by
  rw [wrap_small (by omega) (by omega)]
  congr 1
  have : IntKind.u8.wrap (48 + (m : Int)) = 48 + (m : Int) := by
    show (48 + (m : Int)) % 256 = _
    omega
  rw [this]; omega
theorem dec_step {m : Nat} (h : 9 < m) : itoa (m : Int) = itoa ((m / 10 : Nat) : Int) ++ [UInt8.ofNat (48 + m % 10)] := by
  unfold itoa Go.Lib.itoa
  rw [if_neg (by omega), if_neg (by omega)]
  show Go.Lib.decDigits m = Go.Lib.decDigits (m / 10) ++ _
  rw [Go.Lib.decDigits, dif_neg (by omega)]
theorem dec_last {m : Nat} (h : m < 10) : itoa (m : Int) = [UInt8.ofNat (48 + m)] := by
  unfold itoa Go.Lib.itoa
  rw [if_neg (by omega)]
  show Go.Lib.decDigits m = _
  rw [Go.Lib.decDigits, dif_pos h]
set_option maxHeartbeats 8000000 in
theorem g_l16Dec (n : Nat) (x : Int) (h1 : In64 x) (h2 : (if x < 0 then 1 else 0) < n + 1) : GoalW Tryd.prog [K_l16Dec n] (A_l16Dec x) (K_l16Dec (n + 1)).1 (K_l16Dec (n + 1)).2 x := GoalW.of (vc_l16Dec n x) (by
  simp (maxSteps := 2000000) [-List.getD_eq_getElem?_getD, -List.mem_cons, -Bool.forall_bool, -Bool.exists_bool, and_assoc, peta, tl_inj, ex_1, ex_2, ex_3, ex_4, ex_5, ex_6, ex_7, ex_8, ex_9, ey_2, ey_3, ey_4, ey_5, ey_6, ey_7, ey_8, ey_9]
  obtain ⟨b1, b2⟩ := h1
  refine ⟨fun hn => by omega, fun hn => ⟨fun h0 => ?_, fun h0 => ⟨⟨x.toNat, ⟨by omega, by omega⟩, h0, ?_, by omega⟩, fun a b ha _ he => ⟨fun h9 => ?_, fun h9 => ?_⟩⟩⟩⟩
  · have e : IntKind.i64.wrap (-x) = -x := wrap_small (by omega) (by omega)
    have i1 := itoa_len (n := -x) ⟨by omega, by omega⟩
    rw [e]
    rw [if_pos h0] at h2
    refine ⟨⟨by omega, by omega⟩, by rw [if_neg (by omega)]; omega, ?_, ?_⟩
    · show 1 + ((itoa (-x)).length : Int) ≤ _
      omega
    · rw [lit1, dec_eq, bapp]
      unfold dec itoa Go.Lib.itoa
      rw [if_pos h0, if_neg (by omega), show (-x).toNat = x.natAbs by omega]
      rfl
  · rw [lit0, dec_eq, dec_eq, bapp, List.append_nil, Int.toNat_of_nonneg h0]
  · have i1 := itoa_len (n := x) ⟨b1, b2⟩
    have hz : (dec x).size = (dec (a : Int)).size + b.size := by rw [he]; simp
    have hz : (itoa x).length = (itoa (a : Int)).length + b.size := hz
    rw [show ((a : Int)).tmod 10 = ((a % 10 : Nat) : Int) from rfl, digit_eq (Nat.mod_lt _ (by omega))]
    refine ⟨?_, a / 10, ⟨by omega, by have := ha.2; omega⟩, h0, ?_, by omega, ?_⟩
    · show (1 : Int) + b.size ≤ _
      omega
    · rw [he, dec_eq, dec_step (by omega), lit1, ← bapp, ByteArray.append_assoc]; rfl
    · rw [wrap_small (by have := ha.2; omega) (by have := ha.2; omega)]; rfl
  · have i1 := itoa_len (n := x) ⟨b1, b2⟩
    have hz : (dec x).size = (dec (a : Int)).size + b.size := by rw [he]; simp
    have hz : (itoa x).length = (itoa (a : Int)).length + b.size := hz
    rw [digit_eq (by omega)]
    refine ⟨?_, ?_⟩
    · show (1 : Int) + b.size ≤ _
      omega
    · rw [he, dec_eq, dec_last (by omega), lit1])
theorem k_l16Dec (n : Nat) : SoundC Tryd.prog (K_l16Dec n).1 (K_l16Dec n).2 := by
  induction n with
  | zero => exact sound_of hm CtxOK.nil (fun _ => []) (by kernel_rfl) fun x h => absurd h.2 (Nat.not_lt_zero _)
  | succ n ih => exact sound_ofW hm (CtxOK.nil.and (K := K_l16Dec n) ih) (fun (x : Int) => A_l16Dec x) (by kernel_rfl) fun (x : Int) hb => g_l16Dec n x hb.1 hb.2
theorem k_dec : SoundC Tryd.prog K_dec.1 K_dec.2 := SoundC.fam (fun (x : Int) => if x < 0 then 1 else 0) fun n => k_l16Dec n
set_option maxHeartbeats 8000000 in
theorem g_l11Right (x : LL) (h1 : SzL x) : GoalW Tryd.prog [K_sClauseOk] (A_l11Right x) K_l11Right.1 K_l11Right.2 (x) := GoalW.of (vc_l11Right x) (by
  simp (maxSteps := 2000000) [-List.getD_eq_getElem?_getD, -List.mem_cons, -Bool.forall_bool, -Bool.exists_bool, and_assoc, peta, tl_inj, ex_1, ex_2, ex_3, ex_4, ex_5, ex_6, ex_7, ex_8, ex_9, ey_2, ey_3, ey_4, ey_5, ey_6, ey_7, ey_8, ey_9]
  obtain ⟨f1, f2⟩ := h1
  refine ⟨⟨0, by simp, by simp, rfl⟩, fun k hk he => ⟨fun hlt => ?_, fun hge => ?_⟩⟩
  · have e := he
    rw [drop_get [] hlt, List.all_cons] at e
    refine ⟨hlt, f2 _ (getD_mem [] hlt), fun h => ?_, fun h => ⟨k + 1, hlt, ?_, by omega, wrap_small (by omega) (by have : x.length ≤ 4294967296 := f1; omega)⟩⟩
    · unfold logRight
      rw [e, h]; rfl
    · rw [e, h, Bool.true_and]
  · rw [List.drop_eq_nil_of_le hge, List.all_nil] at he
    unfold logRight
    rw [he, Bool.true_and]
    exact decide_eq_decide.2 (by omega))
theorem k_l11Right : SoundC Tryd.prog K_l11Right.1 K_l11Right.2 := sound_ofW hm (CtxOK.nil.and k_sClauseOk) (fun (x : LL) => A_l11Right x) (by kernel_rfl) fun (x : LL) hb => g_l11Right x hb
set_option maxHeartbeats 8000000 in
theorem g_sLogText (x : LL) (h1 : SzL x) : GoalW Tryd.prog [K_l11Right, K_dec] (A_sLogText x) K_sLogText.1 K_sLogText.2 (x) := GoalW.of (vc_sLogText x) (by
  simp only [lit0, lit1, lit2, lit3, lit4, dec_eq, textT_eq, byteS_eq, bapp, mkB_size, mkB_inj]
  simp (maxSteps := 2000000) [-List.getD_eq_getElem?_getD, -List.mem_cons, -Bool.forall_bool, -Bool.exists_bool, and_assoc, peta, tl_inj, ex_1, ex_2, ex_3, ex_4, ex_5, ex_6, ex_7, ex_8, ex_9, ey_2, ey_3, ey_4, ey_5, ey_6, ey_7, ey_8, ey_9]
  obtain ⟨f1, f2⟩ := h1
  have hlen : x.length ≤ 4294967296 := f1
  refine ⟨⟨0, by omega, .inr rfl, rfl, rfl⟩, fun k hk hr => ⟨fun hlt => ⟨f1, f2, fun h2 => ⟨hlt, h2, ⟨0, by omega, rfl, rfl⟩, fun j _ _ hj => ⟨hlt, fun hjl => ?_, fun hjg => ?_⟩⟩, fun h2 => ?_⟩, fun hge => ?_⟩⟩
  · obtain ⟨g1, g2⟩ := log_facts h2
    have g3 := g2 _ (getD_mem [] hlt)
    have g4 := itoaS_len g3 j
    have g5 := logB_len h2 k
    have g6 := (clause_bd g3).1
    have i4 := (clause_bd g3).2 _ (getD_mem 0 hjl)
    have i5 := itoa_len i4
    exact ⟨hlt, hjl, i4, by omega, by omega, hlt, h2, j + 1, hjl, by omega, (catB_step 0 itoaS hjl).symm, wrap_small (by omega) (by omega)⟩
  · obtain ⟨g1, g2⟩ := log_facts h2
    have g3 := g2 _ (getD_mem [] hlt)
    have g4 := itoaS_len g3 j
    have g5 := logB_len h2 k
    refine ⟨by omega, k + 1, hlt, .inl h2, by omega, ?_, wrap_small (by omega) (by omega)⟩
    rw [catB_all _ hjg]
    exact (catB_step [] clauseB hlt).symm
  · rcases hr with hr | hr
    · rw [hr] at h2; cases h2
    · subst hr; exact (tx_no h2).symm
  · rcases hr with hr | hr
    · rw [tx_yes hr, mkB_inj]; exact catB_all _ hge
    · have : x = [] := List.length_eq_zero_iff.1 (by omega)
      subst this; subst hr; rfl)
theorem k_sLogText : SoundC Tryd.prog K_sLogText.1 K_sLogText.2 := sound_ofW hm ((CtxOK.nil.and k_dec).and k_l11Right) (fun (x : LL) => A_sLogText x) (by kernel_rfl) fun (x : LL) hb => g_sLogText x hb
set_option maxHeartbeats 8000000 in
theorem g_isLog1 (x : List Int) (h1 : Sz x) : GoalW Tryd.prog [K_iClauseOk] ([]) K_isLog1.1 K_isLog1.2 (x) := GoalW.of (vc_isLog1 x) (by
  simp (maxSteps := 2000000) [-List.getD_eq_getElem?_getD, -List.mem_cons, -Bool.forall_bool, -Bool.exists_bool, and_assoc, peta, tl_inj, ex_1, ex_2, ex_3, ex_4, ex_5, ex_6, ex_7, ex_8, ex_9, ey_2, ey_3, ey_4, ey_5, ey_6, ey_7, ey_8, ey_9]
  exact ⟨h1, clause_same x 60⟩)
theorem k_isLog1 : SoundC Tryd.prog K_isLog1.1 K_isLog1.2 := sound_ofW hm (CtxOK.nil.and k_iClauseOk) (fun (x : List Int) => []) (by kernel_rfl) fun (x : List Int) hb => g_isLog1 x hb
set_option maxHeartbeats 8000000 in
theorem g_IndexLog (x : LL) (h1 : SzL x) : GoalW Tryd.prog [K_isLog1] (A_IndexLog x) K_IndexLog.1 K_IndexLog.2 (x) := GoalW.of (vc_IndexLog x) (by
  simp (maxSteps := 2000000) [-List.getD_eq_getElem?_getD, -List.mem_cons, -Bool.forall_bool, -Bool.exists_bool, and_assoc, peta, tl_inj, ex_1, ex_2, ex_3, ex_4, ex_5, ex_6, ex_7, ex_8, ex_9, ey_2, ey_3, ey_4, ey_5, ey_6, ey_7, ey_8, ey_9]
  obtain ⟨f1, f2⟩ := h1
  have hlen : x.length ≤ 4294967296 := f1
  exact ⟨⟨0, by simp, idx_init _ _, rfl⟩, fun k hk he => ⟨fun hlt => ⟨hlt, f2 _ (getD_mem [] hlt), fun h => (idx_step [] _ hlt he).1 (by simp [h, -List.getD_eq_getElem?_getD]), fun h => ⟨k + 1, hlt, (idx_step [] _ hlt he).2 (by simp [h, -List.getD_eq_getElem?_getD]), by omega, wrap_small (by omega) (by omega)⟩⟩, fun hge => idx_end _ hge he⟩⟩)
theorem k_IndexLog : SoundC Tryd.prog K_IndexLog.1 K_IndexLog.2 := sound_ofW hm (CtxOK.nil.and k_isLog1) (fun (x : LL) => A_IndexLog x) (by kernel_rfl) fun (x : LL) hb => g_IndexLog x hb
set_option maxHeartbeats 8000000 in
theorem g_ContainsLog (x : LL) (h1 : SzL x) : GoalW Tryd.prog [K_IndexLog] ([]) K_ContainsLog.1 K_ContainsLog.2 (x) := GoalW.of (vc_ContainsLog x) (by
  simp (maxSteps := 2000000) [-List.getD_eq_getElem?_getD, -List.mem_cons, -Bool.forall_bool, -Bool.exists_bool, and_assoc, peta, tl_inj, ex_1, ex_2, ex_3, ex_4, ex_5, ex_6, ex_7, ex_8, ex_9, ey_2, ey_3, ey_4, ey_5, ey_6, ey_7, ey_8, ey_9]
  exact ⟨h1.1, h1.2, idx_any _ x⟩)
theorem k_ContainsLog : SoundC Tryd.prog K_ContainsLog.1 K_ContainsLog.2 := sound_ofW hm (CtxOK.nil.and k_IndexLog) (fun (x : LL) => []) (by kernel_rfl) fun (x : LL) hb => g_ContainsLog x hb
set_option maxHeartbeats 8000000 in
theorem g_isLog (x : LL) (h1 : SzL x) : GoalW Tryd.prog [K_ContainsLog] ([]) K_isLog.1 K_isLog.2 (x) := GoalW.of (vc_isLog x) (by
  simp (maxSteps := 2000000) [-List.getD_eq_getElem?_getD, -List.mem_cons, -Bool.forall_bool, -Bool.exists_bool, and_assoc, peta, tl_inj, ex_1, ex_2, ex_3, ex_4, ex_5, ex_6, ex_7, ex_8, ex_9, ey_2, ey_3, ey_4, ey_5, ey_6, ey_7, ey_8, ey_9]
  refine ⟨fun h => ⟨h1.1, h1.2, ?_⟩, fun h => ?_⟩
  · unfold logRight
    rw [decide_eq_true (by omega : x.length ≤ 130), Bool.and_true, List.any_eq_not_all_not, Bool.not_inj_iff]
    congr 1; funext y; simp
  · unfold logRight
    rw [decide_eq_false (by omega : ¬ x.length ≤ 130), Bool.and_false])
theorem k_isLog : SoundC Tryd.prog K_isLog.1 K_isLog.2 := sound_ofW hm (CtxOK.nil.and k_ContainsLog) (fun (x : LL) => []) (by kernel_rfl) fun (x : LL) hb => g_isLog x hb
set_option maxHeartbeats 8000000 in
theorem g_spaced (x : List Int) (h1 : specClause x 60 = true) : GoalW Tryd.prog [K_Itoa] (A_spaced x) K_spaced.1 K_spaced.2 (x) := GoalW.of (vc_spaced x) (by
  simp only [lit0, lit1, lit2, lit3, lit4, dec_eq, textT_eq, byteS_eq, bapp, mkB_size, mkB_inj]
  simp (maxSteps := 2000000) [-List.getD_eq_getElem?_getD, -List.mem_cons, -Bool.forall_bool, -Bool.exists_bool, and_assoc, peta, tl_inj, ex_1, ex_2, ex_3, ex_4, ex_5, ex_6, ex_7, ex_8, ex_9, ey_2, ey_3, ey_4, ey_5, ey_6, ey_7, ey_8, ey_9]
  have h2 := clause_bd h1
  refine ⟨⟨0, by omega, rfl, rfl⟩, fun k hk => ⟨fun hlt => ?_, fun hge => catB_all _ hge⟩⟩
  have i4 := h2.2 _ (getD_mem 0 hlt)
  have i5 := itoa_len i4
  have c4 := itoaS_len h1 k
  exact ⟨hlt, i4, by omega, by omega, k + 1, hlt, by omega, (catB_step 0 itoaS hlt).symm, wrap_small (by omega) (by omega)⟩)
theorem k_spaced : SoundC Tryd.prog K_spaced.1 K_spaced.2 := sound_ofW hm (CtxOK.nil.and k_Itoa) (fun (x : List Int) => A_spaced x) (by kernel_rfl) fun (x : List Int) hb => g_spaced x hb
end Cg

/-
  The codes' contracts: texts that a builder gathers. No condition.
-/
set_option linter.unusedVariables false
set_option linter.unusedSimpArgs false
set_option maxRecDepth 100000
namespace Cg
open Go Go.Proofs Go.RowKit Pl
theorem isB_ext {T e : TypeId} {B b : Nat} {bs : List Value} {w w' : World} (h : Lib.IsBuilder T e B b bs w) (hx : Ext w w') : Lib.IsBuilder T e B b bs w' := by
  have go : ∀ p, Lib.BuilderAt T e B b p bs w → Lib.BuilderAt T e B b p bs w' := fun p ⟨hB, v, hb, hown, hne⟩ => by
    refine ⟨hB, v, ?_, ?_, hne⟩
    · rw [hx.block b (Array.getElem?_eq_some_iff.1 hb).1]; exact hb
    · refine ⟨hown.1, ?_⟩
      rcases hown.2 with hn | ⟨g, cap, cur, rfl, h1, h2, rest⟩
      · exact .inl hn
      · exact .inr ⟨g, cap, cur, rfl, h1, by rw [hx.block g (Array.getElem?_eq_some_iff.1 h2).1]; exact h2, rest⟩
  rcases h with h | h
  · exact .inl (go _ h)
  · exact .inr (go _ h)
theorem Below.gl {S : Nat → Prop} {w w' : World} {B : Nat} (h : Gl S w) (hin : ∀ b, S b → b < B) (hb : Below B w w') : Gl S w' := h.mono (fun _ h => h) fun b hs => hb.block b (hin b hs)
theorem Below.rel {S : Nat → Prop} {w w' : World} {B : Nat} {a : AV} {y : Value} (h : RelI S w a y) (hin : ∀ b, S b → b < B) (hb : Below B w w') : RelI S w' a y := RelI_mono (fun _ h => h) (fun b hs => hb.block b (hin b hs)) a y h
theorem PureAt.text {f : FuncId} {args : List AV} {b : ByteArray} (h : PureAt Tryd.prog f args (st b)) {S : Nat → Prop} {W : World} {vals : List Value} (hin : ∀ b, S b → b < W.heap.size) (hg : Gl S W) (hr : RelL S mu0 W args vals) :
    Calls Tryd.prog f vals.toArray W fun e W' => e = .returned (.string b) ∧ Ext W W' :=
  (h S W vals hin hg hr).mono fun e W' he => by
    obtain ⟨y, S', rfl, h1, _, _, _, h5⟩ := he
    exact ⟨by rw [show y = .string b from h5], h1⟩
theorem PureAt.bool {f : FuncId} {args : List AV} {b : Bool} (h : PureAt Tryd.prog f args (bl b)) {S : Nat → Prop} {W : World} {vals : List Value} (hin : ∀ b, S b → b < W.heap.size) (hg : Gl S W) (hr : RelL S mu0 W args vals) :
    Calls Tryd.prog f vals.toArray W fun e W' => e = .returned (.bool b) ∧ Ext W W' :=
  (h S W vals hin hg hr).mono fun e W' he => by
    obtain ⟨y, S', rfl, h1, _, _, _, h5⟩ := he
    exact ⟨by rw [show y = .bool b from h5], h1⟩
set_option maxHeartbeats 1000000 in
theorem w_logText (l : LL) (h : logRight l = true) (S : Nat → Prop) (w : World) (v : Value) (hin : ∀ b, S b → b < w.heap.size) (hgl : Gl S w) (hr : RelI S w (intss l) v) :
    Calls Tryd.prog 63 #[v] w fun e w' => e = .returned (.string (mkB (logB l))) ∧ Below w.heap.size w w' := by
  obtain ⟨a, cap, rfl, hcap, hc⟩ := hr
  go_enter Tryd.func63, Tryd.ntmps63
  go_wp2
  go_loopw [8] (fun v8 wr => ∃ k : Nat, v8 = .int .i64 (k : Int) ∧ k ≤ l.length ∧ Lib.IsBuilder 107 5 w.heap.size w.heap.size (Lib.byteCells (logB (l.take k))) wr ∧ Below w.heap.size w wr) (fun v8 wr => match v8 with | .int _ k => l.length - k.toNat | _ => 0)
  case atStart =>
    refine ⟨0, rfl, Nat.zero_le _, Lib.fresh_isBuilder 107 5 w, (Below.refl _ w).alloc (Nat.le_refl _) _⟩
  case round =>
    obtain ⟨k, rfl, hk, hI, hbw⟩ := hrel
    by_cases hp : k < l.length
    · obtain ⟨b, off, rfl, hb, c, T, fr, hh, hel⟩ := hc.resolve_left (by omega)
      obtain ⟨x, hx1, hx2⟩ := hel k hp 0 (by omega)
      have hx3 : RelI S wr (ints (l.getD k [])) x := Below.rel hx2 hin hbw
      have hcell : wr.cell? ⟨b, off + k, none⟩ = some x := by
        unfold World.cell?
        rw [hbw.block b (hin b hb), hh]
        simpa using hx1
      have hk2 : specClause (l.getD k []) 60 = true := (log_facts h).2 _ (getD_mem [] hp)
      have hsp := itoaS_len hk2 (l.getD k []).length
      rw [List.take_length] at hsp
      have hlb := logB_len h k
      have hl130 := (log_facts h).1
      have hw64 : wrap64 ((k : Int) + 1) = (k : Int) + 1 := (by unfold wrap64; omega)
      have e : logB (l.take (k + 1)) = logB (l.take k) ++ (catB itoaS (l.getD k []) ++ [48, 10]) := catB_step [] clauseB hp
      have hcall : Calls Tryd.prog 98 #[x] wr fun e W' => e = .returned (.string (mkB (catB itoaS (l.getD k [])))) ∧ Ext wr W' :=
        PureAt.text (k_spaced.2 (l.getD k []) hk2) (vals := [x]) (fun b hs => Nat.lt_of_lt_of_le (hin b hs) hbw.size) (Below.gl hgl hin hbw) ⟨x, [], rfl, hx3, rfl⟩
      clear hx2 hx3 hel hc hx1
      obtain ⟨tx, htx⟩ : ∃ tx, tx = mkB (catB itoaS (l.getD k [])) := ⟨_, rfl⟩
      rw [← htx] at hcall
      have hsz1 : tx.size ≤ 1320 := by rw [htx]; exact hsp
      have hsz2 : ¬ tx.size + ByteArray.size ⟨#[48, 10]⟩ > 9223372036854775807 := by
        show ¬ tx.size + 2 > _
        omega
      have hsz3 : (Lib.byteCells (logB (l.take k))).length + (tx ++ ⟨#[48, 10]⟩).size ≤ 140737488355328 := by
        rw [Lib.byteCells_length, ByteArray.size_append]
        show _ + (tx.size + 2) ≤ _
        omega
      have e2 : logB (l.take (k + 1)) = logB (l.take k) ++ (tx ++ ⟨#[48, 10]⟩ : ByteArray).data.toList := by rw [e, htx, lit2, bapp]; rfl
      clear e htx hsp
      go_wp2_with (go_at_call 98; refine hcall.mono ?_)
      rintro e W1 ⟨rfl, hx1'⟩
      have hb1 : Below w.heap.size w W1 := hbw.trans ⟨hx1'.os, hx1'.tape, hx1'.output, hx1'.size, fun b hb => hx1'.block b (Nat.lt_of_lt_of_le hb hbw.size)⟩
      go_wp2_with (go_at_call 69; refine (Tryd.Builder_WriteString w.heap.size w.heap.size _ _ W1 (isB_ext hI hx1') hsz3 hb1.size).mono ?_)
      rintro e W2 ⟨rfl, hB2, hb2⟩
      go_wp2
      go_roundw
      case rel =>
        refine ⟨k + 1, rfl, hp, ?_, hb1.trans hb2⟩
        rw [Lib.strCells_eq, ← Lib.byteCells_append, ← e2] at hB2
        exact .inr hB2
      case measure =>
        show l.length - ((k : Int) + 1).toNat < l.length - (k : Int).toNat
        omega
    · have hkl : k = l.length := by omega
      subst hkl
      rw [List.take_length] at hI
      go_wp2_with (go_at_call 71; refine (Tryd.Builder_String_any w.heap.size w.heap.size (logB l) wr hI hbw.size).mono ?_)
      rintro e W2 ⟨rfl, hb2⟩
      go_wp2
      go_ret
      exact ⟨rfl, hbw.trans hb2⟩
theorem Below.ext {w w' : World} (h : Below w.heap.size w w') : Ext w w' := ⟨h.os, h.tape, h.output, h.size, h.block⟩
theorem k_logText : SoundC Tryd.prog K_logText.1 K_logText.2 := ⟨callable_of (by kernel_rfl), fun x hx S w vals hin hgl hrel => by
  obtain ⟨y0, r0, rfl, ha, hc⟩ := hrel
  cases hc
  exact (w_logText x hx S w y0 hin hgl ha).mono fun e w' ⟨he, hw⟩ => ⟨_, S, he, Below.ext hw, fun _ h => h, fun _ h => .inl h, fun b hb => Nat.lt_of_lt_of_le (hin b hb) hw.size, rfl⟩⟩
theorem Ext.alloc (w : World) (o : Obj) : Ext w (w.alloc o) := Below.ext ((Below.refl _ w).alloc (Nat.le_refl _) o)
end Cg

/-
  The codes' contracts: laws on texts. No condition.
-/
set_option linter.unusedVariables false
set_option linter.unusedSimpArgs false
set_option maxRecDepth 100000
namespace Cg
open Go Go.Proofs Pl
set_option maxHeartbeats 8000000 in
theorem g_iLogText (x : LL) (h1 : SzL x) : GoalW Tryd.prog [K_isLog, K_logText] ([]) K_iLogText.1 K_iLogText.2 (x) := GoalW.of (vc_iLogText x) (by
  simp (maxSteps := 2000000) [-List.getD_eq_getElem?_getD, -List.mem_cons, -Bool.forall_bool, -Bool.exists_bool, and_assoc, peta, tl_inj, ex_1, ex_2, ex_3, ex_4, ex_5, ex_6, ex_7, ex_8, ex_9, ey_2, ey_3, ey_4, ey_5, ey_6, ey_7, ey_8, ey_9]
  exact ⟨h1.1, h1.2, fun h => (tx_no h).symm, fun h => ⟨h, (tx_yes h).symm⟩⟩)
theorem k_iLogText : SoundC Tryd.prog K_iLogText.1 K_iLogText.2 := sound_ofW hm ((CtxOK.nil.and k_logText).and k_isLog) (fun (x : LL) => []) (by kernel_rfl) fun (x : LL) hb => g_iLogText x hb
set_option maxHeartbeats 8000000 in
theorem g_xLogText (x : LL) (h1 : MlL x) : GoalW Tryd.prog [K_szIntSS, K_toIntSS, K_sLogText, K_iLogText, K_eqIntSS] ([]) K_xLogText.1 K_xLogText.2 (x) := GoalW.of (vc_xLogText x) (by
  simp (maxSteps := 2000000) [-List.getD_eq_getElem?_getD, -List.mem_cons, -Bool.forall_bool, -Bool.exists_bool, and_assoc, peta, tl_inj, ex_1, ex_2, ex_3, ex_4, ex_5, ex_6, ex_7, ex_8, ex_9, ey_2, ey_3, ey_4, ey_5, ey_6, ey_7, ey_8, ey_9]
  refine ⟨h1.1, h1.2, fun h => ?_⟩
  have hz := szSS_le (by omega) h
  exact ⟨hz.1, hz.2, hz.1, hz.2, hz.1, hz.2, hz.1, hz.2, hz.1, hz.2, hz.1, hz.2⟩)
theorem k_xLogText : SoundC Tryd.prog K_xLogText.1 K_xLogText.2 := sound_ofW hm (((((CtxOK.nil.and k_eqIntSS).and k_iLogText).and k_sLogText).and k_toIntSS).and k_szIntSS) (fun (x : LL) => []) (by kernel_rfl) fun (x : LL) hb => g_xLogText x hb
end Cg

/-
  The listed tables: what the row's condition gives the machine. No condition.
-/
set_option linter.unusedVariables false
namespace Go.Proofs.YtkajadgfafpncaaDoor
open Go
def laidL : List (String × DataW Unit) := [("math/bits.deBruijn32tab", Rows.laid_math_bits_deBruijn32tab), ("math/bits.deBruijn64tab", Rows.laid_math_bits_deBruijn64tab), ("internal/strconv.uint64pow10", Rows.laid_internal_strconv_uint64pow10)]
theorem door_met (os : Os) (args : Array Value) : laidMetH Tryd.prog laidL ((World.doorLaid Tryd.prog 24 os).forCall (fun _ _ => 0) ⟨#[], args, []⟩).memory :=
  laidMetH_of_parts3 (fuel := 8) (laidMet_of_run' 8 (by kernel_rfl) (by kernel_rfl)) (by kernel_rfl) (by kernel_rfl)
theorem tab_laid {W : World} (h : laidMetH Tryd.prog laidL W) : Go.Lib.TabIs Tryd.prog W "internal/strconv.uint64pow10" .u64 Go.Lib.pow10Tab := by
  rw [MakeChecks.laidMetH_plain _ _ _ (by kernel_rfl)] at h
  have h2 := laidMet.filter (fun x => x.1 == "internal/strconv.uint64pow10") h
  have h3 : laidMet Tryd.prog (("internal/strconv.uint64pow10", Go.Lib.tabData .u64 Go.Lib.pow10Tab) :: []) W := by
    have e : (laidL.filter fun x => x.1 == "internal/strconv.uint64pow10") = ("internal/strconv.uint64pow10", Go.Lib.tabData .u64 Go.Lib.pow10Tab) :: [] := by rfl
    rw [e] at h2
    exact h2
  exact Go.Lib.tabIs_of_head (show Tryd.prog.globalNamed "internal/strconv.uint64pow10" = some 0 by kernel_rfl) (t := 189) (by kernel_rfl) Tryd.underlying189 Tryd.underlying182 (by kernel_rfl) (by kernel_rfl) h3
theorem gl_laid {W : World} (h : laidMetH Tryd.prog laidL W) : Cg.Gl (fun b => b < W.heap.size) W := fun g hg => by
  rw [show Cg.globs = [(0, fun c => c = ((List.range 20).map fun i => Value.int .u64 ((10 ^ i : Nat) : Int)).toArray)] from rfl, List.mem_singleton] at hg
  subst hg
  have ht := tab_laid h
  unfold Go.Lib.TabIs World.var? at ht
  rw [show Tryd.prog.globalNamed "internal/strconv.uint64pow10" = some 0 by kernel_rfl, Option.bind_some] at ht
  dsimp only
  split at ht
  · rename_i c T fr hc
    refine ⟨?_, c, T, fr, hc, ?_⟩
    · exact (Array.getElem?_eq_some_iff.1 hc).1
    · rw [Option.some.inj ht]
      unfold Go.Lib.pow10Tab
      rw [List.map_map]
      rfl
  · cases ht
end Go.Proofs.YtkajadgfafpncaaDoor
