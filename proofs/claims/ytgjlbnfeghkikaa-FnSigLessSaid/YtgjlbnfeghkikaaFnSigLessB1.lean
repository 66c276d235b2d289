/-
  What the law leans on, part 1. No condition.
-/
import Derived.Test.YtgjlbnfeghkikaaTool
import Derived.Test.YtgjlbnfeghkikaaProg
/-
  The numbers of the functions, by name. No condition.
-/
namespace Nm
def laws_FnSigLess : Nat := 3
def spec_DrawSigOk : Nat := 4
def impl_SigOk : Nat := 5
def spec_SigOk : Nat := 6
def impl_NameOk : Nat := 7
def spec_l16Open : Nat := 8
def spec_l4Bent : Nat := 9
def spec_l4Sig : Nat := 10
def impl_Sym_ok : Nat := 11
def spec_NameOk : Nat := 12
def spec_l4Sort : Nat := 13
def impl_within : Nat := 14
def spec_l16Rd_pick : Nat := 15
def spec_l16Rd_of : Nat := 16
def spec_l16Rd_num : Nat := 17
def spec_l4Base : Nat := 18
def impl_isSort : Nat := 19
def slices_ContainsFunc_Sint_int : Nat := 20
def impl_Sym_ok_1 : Nat := 21
def slices_IndexFunc_Sint_int : Nat := 22
def internal_abi_Type_Align : Nat := 35
def internal_runtime_maps_unhashableTypeError_Error : Nat := 36
def internal_runtime_maps_unhashableTypeError_RuntimeError : Nat := 37
def impl_Sig_own : Nat := 38
def spec_l16Rd_word : Nat := 39
def internal_abi_Kind_String : Nat := 40
end Nm

/-
  Trees: a thing and the trees below it, and how they lie in cells. No condition.
-/
set_option linter.unusedVariables false
set_option linter.unusedSimpArgs false
namespace Pl
inductive Tree (α : Type) where
  | mk (v : α) (ks : List (Tree α))
def Tree.val {α : Type} : Tree α → α
  | .mk v _ => v
def Tree.kids {α : Type} : Tree α → List (Tree α)
  | .mk _ ks => ks
@[simp] theorem Tree.eta {α : Type} (t : Tree α) : Tree.mk t.val t.kids = t := by cases t; rfl
@[simp] theorem Tree.val_mk {α : Type} (v : α) (ks : List (Tree α)) : (Tree.mk v ks).val = v := rfl
@[simp] theorem Tree.kids_mk {α : Type} (v : α) (ks : List (Tree α)) : (Tree.mk v ks).kids = ks := rfl
theorem Tree.ext {α : Type} {t u : Tree α} (h1 : t.val = u.val) (h2 : t.kids = u.kids) : t = u := by cases t; cases u; simp_all
noncomputable instance {α : Type} : DecidableEq (Tree α) := fun a b => Classical.propDecidable (a = b)
mutual
/-- How many there are in a tree, and in trees. -/
def Tree.many {α : Type} : Tree α → Nat
  | .mk _ ks => 1 + manyL ks
def manyL {α : Type} : List (Tree α) → Nat
  | [] => 0
  | t :: ts => t.many + manyL ts
end
theorem Tree.many_eq {α : Type} (t : Tree α) : t.many = 1 + manyL t.kids := by
  cases t with
  | mk v ks => simp only [Tree.many, Tree.kids]
theorem many_mem {α : Type} {t : Tree α} : ∀ {l : List (Tree α)}, t ∈ l → t.many ≤ manyL l
  | u :: r, h => by
    unfold manyL
    cases List.mem_cons.1 h with
    | inl e => subst e; omega
    | inr e => have := many_mem e; omega
theorem Tree.many_kid {α : Type} {t u : Tree α} (h : u ∈ t.kids) : u.many < t.many := by
  have := many_mem h
  rw [t.many_eq]; omega
theorem Tree.many_pos {α : Type} (t : Tree α) : 0 < t.many := by rw [t.many_eq]; omega
end Pl
namespace Cg
open Go Pl
mutual
def subTr {α : Type} (k : Nat) (e : α → Nat → AV) : Tree α → Nat → Nat → AV
  | .mk _ ks => rowsTr k e ks
def rowsTr {α : Type} (k : Nat) (e : α → Nat → AV) : List (Tree α) → Nat → Nat → AV
  | [] => fun _ _ => .any
  | t :: ts => fun i j => match i with
    | 0 => bif Nat.blt j k then e t.val j else .sl t.kids.length (k + 1) (subTr k e t)
    | i + 1 => rowsTr k e ts i j
end
/-- A tree's cells: those of its thing, and the trees below. -/
def eTr {α : Type} (k : Nat) (e : α → Nat → AV) (t : Tree α) (j : Nat) : AV := bif Nat.blt j k then e t.val j else .sl t.kids.length (k + 1) (subTr k e t)
section
variable {α : Type} {k : Nat} {e : α → Nat → AV}
theorem rowsTr_get (d : Tree α) : ∀ (l : List (Tree α)) (i : Nat), i < l.length → ∀ j, rowsTr k e l i j = eTr k e (l.getD i d) j
  | [], i, h, j => by cases h
  | t :: ts, 0, h, j => by simp only [rowsTr, eTr]; rfl
  | t :: ts, i + 1, h, j => by
    have := rowsTr_get d ts i (by simpa using h) j
    simp only [rowsTr, this, List.getD_cons_succ]
theorem subTr_get (d : Tree α) (t : Tree α) (i : Nat) (h : i < t.kids.length) (j : Nat) : subTr k e t i j = eTr k e (t.kids.getD i d) j := by
  cases t with
  | mk v ks => simp only [subTr]; exact rowsTr_get d ks i h j
theorem Is_sl_iff2 {β : Type} {q : Nat} {f : β → Nat → AV} {d : β} (hq : 0 < q) {l m : List β} (he : ∀ x ∈ l, ∀ y, (∀ j, j < q → Is (f x j) (f y j)) ↔ x = y) {c c' : Nat → Nat → AV} (hc : ∀ i, i < l.length → ∀ j, j < q → c i j = f (l.getD i d) j) (hc' : ∀ i, i < m.length → ∀ j, j < q → c' i j = f (m.getD i d) j) :
    Is (.sl l.length q c) (.sl m.length q c') ↔ l = m := by
  constructor
  · intro h
    rw [Is] at h
    obtain ⟨h1, h2⟩ := h
    refine list_eq_getD d h1 fun i hi => ?_
    rcases h2 with h2 | ⟨_, h2⟩
    · omega
    · refine (he _ (by simp [hi]) _).1 fun j hj => ?_
      have := h2 i hi j hj
      rw [hc i hi j hj, hc' i (by omega) j hj] at this
      exact this
  · rintro rfl
    rw [Is]
    exact ⟨rfl, .inr ⟨rfl, fun i hi j hj => by rw [hc i hi j hj, hc' i hi j hj]; exact (he _ (by simp [hi]) _).2 rfl j hj⟩⟩
/-- The same cells, said in another way. -/
theorem Is_sl_cell {n q : Nat} {c c' : Nat → Nat → AV} {a : AV} (h : ∀ i, i < n → ∀ j, j < q → c i j = c' i j) (ha : Is a (.sl n q c)) : Is a (.sl n q c') := by
  cases a with
  | sl n1 e1 c1 =>
    rw [Is] at ha ⊢
    obtain ⟨rfl, h2⟩ := ha
    refine ⟨rfl, h2.imp id fun h2 => ?_⟩
    obtain ⟨rfl, h3⟩ := h2
    exact ⟨rfl, fun i hi j hj => by rw [← h i hi j hj]; exact h3 i hi j hj⟩
  | lit n1 e1 c1 =>
    rw [Is] at ha ⊢
    obtain ⟨rfl, h2⟩ := ha
    refine ⟨rfl, h2.imp id fun h2 => ?_⟩
    obtain ⟨rfl, h3⟩ := h2
    exact ⟨rfl, fun i hi j hj => by rw [← h i hi j hj]; exact h3 i hi j hj⟩
  | hdr x1 n1 e1 c1 =>
    rw [Is] at ha ⊢
    obtain ⟨rfl, h2⟩ := ha
    refine ⟨rfl, h2.imp id fun h2 => ?_⟩
    obtain ⟨rfl, h3⟩ := h2
    exact ⟨rfl, fun i hi j hj => by rw [← h i hi j hj]; exact h3 i hi j hj⟩
  | _ => simp [Is] at ha
theorem eTr_lt {t : Tree α} {j : Nat} (h : j < k) : eTr k e t j = e t.val j := by unfold eTr; rw [blt_true h]; rfl
theorem eTr_kids {t : Tree α} : eTr k e t k = .sl t.kids.length (k + 1) (subTr k e t) := by unfold eTr; rw [blt_false (Nat.lt_irrefl k)]; rfl
theorem EncN.tr (he : EncN k e) : EncN (k + 1) (eTr k e) := fun x y => by
  have main : ∀ (n : Nat) (x y : Tree α), x.many ≤ n → ((∀ j, j < k + 1 → Is (eTr k e x j) (eTr k e y j)) ↔ x = y) := by
    intro n
    induction n with
    | zero => intro x y h; have := x.many_pos; omega
    | succ n ih =>
      intro x y hn
      have kids : ∀ z ∈ x.kids, ∀ w, (∀ j, j < k + 1 → Is (eTr k e z j) (eTr k e w j)) ↔ z = w := fun z hz w => ih z w (by have := Tree.many_kid hz; omega)
      have key : Is (.sl x.kids.length (k + 1) (subTr k e x)) (.sl y.kids.length (k + 1) (subTr k e y)) ↔ x.kids = y.kids :=
        Is_sl_iff2 (d := x) (Nat.succ_pos k) kids (fun i hi j _ => subTr_get x x i hi j) (fun i hi j _ => subTr_get x y i hi j)
      constructor
      · intro h
        refine Tree.ext ((he _ _).1 fun j hj => ?_) (key.1 ?_)
        · have := h j (by omega)
          rw [eTr_lt hj, eTr_lt hj] at this
          exact this
        · have := h k (by omega)
          rw [eTr_kids, eTr_kids] at this
          exact this
      · rintro rfl j hj
        by_cases hjk : j < k
        · rw [eTr_lt hjk]; exact (he _ _).2 rfl j hjk
        · have : j = k := by omega
          subst this
          rw [eTr_kids]
          exact key.2 rfl
  exact main x.many x y (Nat.le_refl _)
end
end Cg

/-
  Words and terms: how they lie in cells. No condition.
-/
set_option linter.unusedVariables false
set_option linter.unusedSimpArgs false
namespace Pl
abbrev Tm := Tree ByteArray
abbrev TP := ByteArray × List Tm
abbrev Sym := ByteArray × List Int × Int
def dT : Tm := .mk ByteArray.empty []
def dY : Sym := (ByteArray.empty, [], 0)
end Pl
namespace Cg
open Go Pl
def subT (t : Tm) : Nat → Nat → AV := subTr 1 eS t
def eT (t : Tm) (j : Nat) : AV := match j with
  | 0 => st t.val
  | _ => .sl t.kids.length 2 (subT t)
theorem eT_tr (t : Tm) : ∀ j, j < 2 → eT t j = eTr 1 eS t j
  | 0, _ => (eTr_lt (k := 1) (e := eS) (t := t) (j := 0) (by decide)).symm
  | 1, _ => (eTr_kids (k := 1) (e := eS) (t := t)).symm
theorem EncN.eT : EncN 2 eT := fun x y => by
  rw [← EncN.tr EncN.eS x y]
  exact ⟨fun h j hj => by rw [← eT_tr x j hj, ← eT_tr y j hj]; exact h j hj, fun h j hj => by rw [eT_tr x j hj, eT_tr y j hj]; exact h j hj⟩
/-- The terms below a term. -/
def kidsT (t : Tm) : AV := .sl t.kids.length 2 (subT t)

def cT (l : List Tm) : Nat → Nat → AV := fun i j => eT (l.getD i dT) j
def terms (l : List Tm) : AV := .sl l.length 2 fun i j => eT (l.getD i dT) j
def arT (l : List Tm) : AObj := .arr l.length 2 fun i j => eT (l.getD i dT) j
theorem Enc.terms : Enc terms := Enc.sln (by decide) EncN.eT dT
@[simp] theorem Is_terms {x y : List Tm} : Is (terms x) (terms y) ↔ x = y := Enc.terms x y
@[simp] theorem IsO_terms {x y : List Tm} : IsO (arT x) (arT y) ↔ y = [] ∨ x = y := IsO_arn EncN.eT
@[simp] theorem IsO_terms0 {n : Nat} {c : Nat → Nat → AV} : IsO (.arr n 2 c) (arT []) := IsO_nil
@[simp] theorem terms_nil {q : Nat} {c : Nat → Nat → AV} {m : List Tm} : Is (.lit 0 q c) (terms m) ↔ m = [] := nil_sln
@[simp] theorem terms_nilA {m : List Tm} : Is nilA (terms m) ↔ m = [] := nil_sln
@[simp] theorem terms_join {l m : List Tm} : IsO (.arr (l.length + m.length) 2 (joinC l.length (cT l) (cT m))) (arT (l ++ m)) := IsO_join EncN.eT (IsR_cel EncN.eT)
@[simp] theorem terms_join0 {m : List Tm} {c : Nat → Nat → AV} : IsO (.arr (0 + m.length) 2 (joinC 0 c (cT m))) (arT m) := IsO_join0 EncN.eT (IsR_cel EncN.eT)
@[simp] theorem terms_join0' {m : List Tm} {c : Nat → Nat → AV} : IsO (.arr m.length 2 (joinC 0 c (cT m))) (arT m) := IsO_join0 EncN.eT (IsR_cel EncN.eT)
@[simp] theorem Is_kidsT {t : Tm} {m : List Tm} : Is (kidsT t) (terms m) ↔ t.kids = m :=
  Is_sl_iff2 (d := dT) (by decide) (fun x _ y => EncN.eT x y) (fun i hi j hj => by rw [eT_tr _ j hj]; exact subTr_get dT t i hi j) (fun i _ j _ => rfl)
@[simp] theorem Is_terms_kidsT {t : Tm} {m : List Tm} : Is (terms m) (kidsT t) ↔ m = t.kids :=
  Is_sl_iff2 (d := dT) (by decide) (fun x _ y => EncN.eT x y) (fun i _ j _ => rfl) (fun i hi j hj => by rw [eT_tr _ j hj]; exact subTr_get dT t i hi j)
@[simp] theorem Is_kidsT2 {t u : Tm} : Is (kidsT t) (kidsT u) ↔ t.kids = u.kids :=
  Is_sl_iff2 (d := dT) (by decide) (fun x _ y => EncN.eT x y) (fun i hi j hj => by rw [eT_tr _ j hj]; exact subTr_get dT t i hi j) (fun i hi j hj => by rw [eT_tr _ j hj]; exact subTr_get dT u i hi j)
theorem Is_rowT {v : ByteArray} {a : AV} {ks : List Tm} (ha : Is a (terms ks)) : ∀ j, j < 2 → Is ([st v, a].getD j .any) (eT (.mk v ks) j) := fun j hj => by
  match j, hj with
  | 0, _ => exact (Enc.st v v).2 rfl
  | 1, _ =>
    exact Is_sl_cell (fun i hi j hj => by rw [eT_tr _ j hj]; exact (subTr_get dT (Tree.mk v ks) i hi j).symm) ha
def eY (x : Sym) (j : Nat) : AV := match j with
  | 0 => st x.1
  | 1 => ints x.2.1
  | _ => i64 x.2.2
theorem EncN.eY : EncN 3 eY := fun x y => by
  constructor
  · intro h
    have h0 : Is (st x.1) (st y.1) := h 0 (by decide)
    have h1 : Is (ints x.2.1) (ints y.2.1) := h 1 (by decide)
    have h2 : Is (i64 x.2.2) (i64 y.2.2) := h 2 (by decide)
    simp only [Is_i64, Is_u8, Is_bl, Is_st, Is_ints, Is_bools, Is_strs, Is_intss] at h0 h1 h2
    grind
  · rintro rfl j hj
    match j, hj with
    | 0, _ => show Is (st x.1) (st x.1); simp
    | 1, _ => show Is (ints x.2.1) (ints x.2.1); simp
    | 2, _ => show Is (i64 x.2.2) (i64 x.2.2); simp
def cY (l : List Sym) : Nat → Nat → AV := fun i j => eY (l.getD i dY) j
def syms (l : List Sym) : AV := .sl l.length 3 fun i j => eY (l.getD i dY) j
def arY (l : List Sym) : AObj := .arr l.length 3 fun i j => eY (l.getD i dY) j
theorem Enc.syms : Enc syms := Enc.sln (by decide) EncN.eY dY
@[simp] theorem Is_syms {x y : List Sym} : Is (syms x) (syms y) ↔ x = y := Enc.syms x y
@[simp] theorem IsO_syms {x y : List Sym} : IsO (arY x) (arY y) ↔ y = [] ∨ x = y := IsO_arn EncN.eY
@[simp] theorem IsO_syms0 {n : Nat} {c : Nat → Nat → AV} : IsO (.arr n 3 c) (arY []) := IsO_nil
@[simp] theorem syms_nil {q : Nat} {c : Nat → Nat → AV} {m : List Sym} : Is (.lit 0 q c) (syms m) ↔ m = [] := nil_sln
@[simp] theorem syms_nilA {m : List Sym} : Is nilA (syms m) ↔ m = [] := nil_sln
theorem syms_take {l m : List Sym} {n : Nat} (h : n ≤ l.length) : Is (.sl n 3 (cY l)) (syms m) ↔ l.take n = m := Is_take (by decide) EncN.eY h
@[simp] theorem syms_join {l m : List Sym} : IsO (.arr (l.length + m.length) 3 (joinC l.length (cY l) (cY m))) (arY (l ++ m)) := IsO_join EncN.eY (IsR_cel EncN.eY)
@[simp] theorem syms_join0 {m : List Sym} {c : Nat → Nat → AV} : IsO (.arr (0 + m.length) 3 (joinC 0 c (cY m))) (arY m) := IsO_join0 EncN.eY (IsR_cel EncN.eY)
@[simp] theorem syms_join0' {m : List Sym} {c : Nat → Nat → AV} : IsO (.arr m.length 3 (joinC 0 c (cY m))) (arY m) := IsO_join0 EncN.eY (IsR_cel EncN.eY)
theorem Is_rowY {a : ByteArray} {b : AV} {l : List Int} {c : Int} (hb : Is b (ints l)) : ∀ j, j < 3 → Is ([st a, b, i64 c].getD j .any) (eY (a, l, c) j) := fun j hj => by
  match j, hj with
  | 0, _ => exact (Enc.st a a).2 rfl
  | 1, _ => exact hb
  | 2, _ => exact (Enc.i64 c c).2 rfl
@[simp] theorem syms_set {l : List Sym} {i : Nat} {a : ByteArray} {b : List Int} {c : Int} : IsO (.arr l.length 3 (storeC (cY l) i 0 [st a, ints b, i64 c])) (arY (l.set i (a, b, c))) := IsO_set EncN.eY rfl (Is_rowY ((Enc.ints b b).2 rfl))
@[simp] theorem syms_make {n : Nat} : IsO (.arr n 3 (fun _ j => [st ByteArray.empty, nilA, i64 0].getD j .any)) (arY (List.replicate n dY)) := IsO_make EncN.eY (Is_rowY (ints_nilA.2 rfl))
@[simp] theorem terms_set {l : List Tm} {i : Nat} {a : ByteArray} {b : List Tm} : IsO (.arr l.length 2 (storeC (cT l) i 0 [st a, terms b])) (arT (l.set i (.mk a b))) := IsO_set EncN.eT rfl (Is_rowT ((Enc.terms b b).2 rfl))
@[simp] theorem terms_make {n : Nat} : IsO (.arr n 2 (fun _ j => [st ByteArray.empty, nilA].getD j .any)) (arT (List.replicate n dT)) := IsO_make EncN.eT (Is_rowT (terms_nilA.2 rfl))
theorem terms_row (a : ByteArray) (b : List Tm) : IsR 2 eT dT (rowsCell [[st a, terms b]]) [.mk a b] := IsR_row EncN.eT (Is_rowT ((Enc.terms b b).2 rfl))
@[simp] theorem terms_push {l : List Tm} {a : ByteArray} {b : List Tm} : IsO (.arr (l.length + 1) 2 (joinC l.length (cT l) (rowsCell [[st a, terms b]]))) (arT (l ++ [.mk a b])) := IsO_join EncN.eT (terms_row a b)
theorem syms_row (a : ByteArray) (b : List Int) (c : Int) : IsR 3 eY dY (rowsCell [[st a, ints b, i64 c]]) [(a, b, c)] := IsR_row EncN.eY (Is_rowY ((Enc.ints b b).2 rfl))
@[simp] theorem syms_push {l : List Sym} {a : ByteArray} {b : List Int} {c : Int} : IsO (.arr (l.length + 1) 3 (joinC l.length (cY l) (rowsCell [[st a, ints b, i64 c]]))) (arY (l ++ [(a, b, c)])) := IsO_join EncN.eY (syms_row a b c)
end Cg

/-
  Plain functions, and what is known of the codes' callees and loops: clauses. No condition.
-/
namespace Pl
open Go
def wneg (x : Int) : Int := IntKind.i64.wrap (0 - x)
def absW (x : Int) : Int := if x < -60 then 61 else if x > 60 then 61 else if x < 0 then wneg x else x
def withinI (n lo hi : Int) : Bool := decide (lo ≤ n) && decide (n ≤ hi)
def isMark (l many : Int) : Bool := decide (l ≠ 0) && withinI l (wneg many) many
def varI (x : Int) : Int := if wneg x > x then wneg x else x
def specLoop (many last : Int) : List Int → Bool
  | [] => decide (many ≥ 0) && decide (many ≤ 60)
  | x :: xs => bif decide (absW x ≤ last) || decide (absW x > many) then false else specLoop many (absW x) xs
def specClause (l : List Int) (many : Int) : Bool := specLoop many 0 l
def implLoop (many : Int) : Option Int → List Int → Bool
  | _, [] => true
  | none, x :: xs => bif !isMark x many then false else implLoop many (some x) xs
  | some p, x :: xs => bif !isMark x many || decide (varI p ≥ varI x) then false else implLoop many (some x) xs
def implClause (l : List Int) (many : Int) : Bool := bif withinI many 0 60 then implLoop many none l else false
def prev (l : List Int) (k : Nat) : Option Int := if k = 0 then none else some (l.getD (k - 1) 0)
end Pl
namespace Cg
open Go
abbrev Sz {α : Type} (l : List α) : Prop := l.length ≤ 4294967296

def K_within : Nat × Contract := (Nm.impl_within, .sc (Int × Int × Int) (fun x => [i64 x.1, i64 x.2.1, i64 x.2.2]) (fun _ => True) (fun x => bl (Pl.withinI x.1 x.2.1 x.2.2)))
def A_sClauseOk (l : List Int) (many : Int) : List Ann :=
  [.mk (Nat × Int) (fun x => x.1 ≤ l.length ∧ Pl.specClause l many = Pl.specLoop many x.2 (l.drop x.1)) (fun x => { fr := pad [ints l, i64 many, .any, .any, .any, i64 x.2, i64 x.1] 40, H := [] }) (fun x => l.length - x.1) (fun _ => [])]
def A_iClauseOk (l : List Int) (many : Int) : List Ann :=
  [.mk Nat (fun x => x ≤ l.length ∧ Pl.implClause l many = Pl.implLoop many (Pl.prev l x) (l.drop x)) (fun x => { fr := pad [ints l, i64 many, .any, .any, .any, .any, .any, .any, .any, .any, ints l, i64 l.length, i64 x] 37, H := [] }) (fun x => l.length - x) (fun _ => [])]
def A_toIntS (l : List Int) : List Ann :=
  [.mk (Nat × List Int) (fun x => x.1 ≤ l.length ∧ x.2.length = l.length ∧ x.2.take x.1 = l.take x.1) (fun x => { fr := pad [ints l, .any, .any, .osl 0 0 x.2.length, i64 x.1] 22, H := [arI x.2] }) (fun x => l.length - x.1) (fun _ => [])]
def A_eqIntS (l m : List Int) : List Ann :=
  [.mk Nat (fun x => x ≤ l.length ∧ l.length = m.length ∧ (l = m ↔ l.drop x = m.drop x)) (fun x => { fr := pad [ints l, ints m, .any, .any, .any, i64 x] 26, H := [] }) (fun x => l.length - x) (fun _ => [])]
end Cg

/-
  Plain functions, and what is known of the codes' callees and loops: rows of rows, values of marks. No condition.
-/
namespace Pl
def sz1 (n : Nat) (k : Int) : Int := if k - n < 0 then -1 else k - n
def szL : List (List Int) → Int → Int
  | [], k => k
  | x :: xs, k => if k - x.length < 0 then -1 else szL xs (k - x.length)
def szSS (l : List (List Int)) (k : Int) : Int := if k - l.length < 0 then -1 else szL l (k - l.length)
def logEnds (l : List (List Int)) : Bool := decide (l.length > 0) && decide ((l.getD (l.length - 1) []).length = 0)
def lIs (n : Int) (vals : List Bool) : Bool :=
  if n = 0 ∨ n > vals.length ∨ n < -vals.length then false else if n < 0 then !(vals.getD (-1 - n).toNat false) else vals.getD (n - 1).toNat false
def clauseIs (l : List Int) (vals : List Bool) : Bool := l.any fun x => lIs x vals
/-- Where the first is for which something holds. -/
def idx {α : Type} (p : α → Bool) : List α → Int
  | [] => -1
  | x :: l => if p x then 0 else if idx p l < 0 then -1 else idx p l + 1
end Pl
namespace Cg
open Go
abbrev SzL {α : Type} (l : List (List α)) : Prop := Sz l ∧ ∀ x ∈ l, Sz x
abbrev Ml {α : Type} (l : List α) : Prop := l.length ≤ 9223372036854775807
abbrev MlL {α : Type} (l : List (List α)) : Prop := Ml l ∧ ∀ x ∈ l, Ml x
abbrev Fu (k : Int) : Prop := 0 ≤ k ∧ k ≤ 1048576

def A_szIntSS (l : List (List Int)) (k : Int) : List Ann :=
  [.mk (Nat × Int) (fun x => x.1 ≤ l.length ∧ Fu x.2 ∧ Pl.szSS l k = Pl.szL (l.drop x.1) x.2) (fun x => { fr := pad [intss l, i64 x.2, .any, .any, .any, i64 x.1] 27, H := [] }) (fun x => l.length - x.1) (fun _ => [])]
def A_toIntSS (l : List (List Int)) : List Ann :=
  [.mk (Nat × List (List Int)) (fun x => x.1 ≤ l.length ∧ x.2.length = l.length ∧ x.2.take x.1 = l.take x.1) (fun x => { fr := pad [intss l, .any, .any, .osl 0 0 x.2.length, i64 x.1] 23, H := [arII x.2] }) (fun x => l.length - x.1) (fun _ => [])]
def A_eqIntSS (l m : List (List Int)) : List Ann :=
  [.mk Nat (fun x => x ≤ l.length ∧ l.length = m.length ∧ (l = m ↔ l.drop x = m.drop x)) (fun x => { fr := pad [intss l, intss m, .any, .any, .any, i64 x] 27, H := [] }) (fun x => l.length - x) (fun _ => [])]
def A_toBoolS (l : List Bool) : List Ann :=
  [.mk (Nat × List Bool) (fun x => x.1 ≤ l.length ∧ x.2.length = l.length ∧ x.2.take x.1 = l.take x.1) (fun x => { fr := pad [bools l, .any, .any, .osl 0 0 x.2.length, i64 x.1] 22, H := [arB x.2] }) (fun x => l.length - x.1) (fun _ => [])]
def A_eqBoolS (l m : List Bool) : List Ann :=
  [.mk Nat (fun x => x ≤ l.length ∧ l.length = m.length ∧ (l = m ↔ l.drop x = m.drop x)) (fun x => { fr := pad [bools l, bools m, .any, .any, .any, i64 x] 26, H := [] }) (fun x => l.length - x) (fun _ => [])]
def A_sClauseIs (l : List Int) (v : List Bool) : List Ann :=
  [.mk Nat (fun x => x ≤ l.length ∧ Pl.clauseIs l v = Pl.clauseIs (l.drop x) v) (fun x => { fr := pad [ints l, bools v, .any, .any, .any, i64 x] 25, H := [] }) (fun x => l.length - x) (fun _ => [])]
end Cg

/-
  Plain functions, and what is known of the codes' callees and loops: words. No condition.
-/
namespace Pl
open Go
abbrev Sig := List Sym
def bs (s : ByteArray) : List UInt8 := s.data.toList
def lower (b : UInt8) : Bool := !(decide ((b.toNat : Int) < 97) || decide ((b.toNat : Int) > 122))
def nameOk (s : ByteArray) : Bool := decide (1 ≤ s.size) && decide (s.size ≤ 2) && (bs s).all lower
def isSort (n : Int) : Bool := decide (n = 0) || decide (n = 1)
def symOk (x : Sym) : Bool := nameOk x.1 && decide (x.2.1.length ≤ 2) && isSort x.2.2 && x.2.1.all isSort
def sLess (a b : ByteArray) : Bool := Op.bytesLess a.toList b.toList
def before (p : Option ByteArray) (x : ByteArray) : Bool := match p with
  | none => true
  | some q => sLess q x
def sigL : Option ByteArray → List Sym → Bool
  | _, [] => true
  | p, x :: xs => symOk x && before p x.1 && sigL (some x.1) xs
def sigOk (s : Sig) : Bool := sigL none s && decide (s.length ≤ 7)
def prevS (s : Sig) (k : Nat) : Option ByteArray := if k = 0 then none else some (s.getD (k - 1) dY).1
def lim (x : Int) : Int := if x < 0 then -1 else x
def costY (x : Sym) : Nat := x.1.size + x.2.1.length
def sumN {α : Type} (f : α → Nat) : List α → Nat
  | [] => 0
  | x :: xs => f x + sumN f xs
def costG (s : Sig) : Nat := s.length + sumN costY s
end Pl
namespace Cg
open Go Pl
def symA (x : Sym) : AV := .agg [st x.1, ints x.2.1, i64 x.2.2]
def sigA (s : Sig) : AV := .agg [syms s]
/-- A word whose parts are of any size at all, or of some. -/
abbrev MlY (x : Sym) : Prop := x.1.size ≤ 9223372036854775807 ∧ x.2.1.length ≤ 9223372036854775807
abbrev MlG (s : Sig) : Prop := s.length ≤ 9223372036854775807 ∧ ∀ x ∈ s, MlY x
abbrev SmG (s : Sig) : Prop := costG s ≤ 1048576
def K_sNameOk : Nat × Contract := (Nm.spec_NameOk, .sc ByteArray (fun x => [st x]) (fun x => x.size ≤ 1048576) fun x => bl (nameOk x))
def K_iNameOk : Nat × Contract := (Nm.impl_NameOk, .sc ByteArray (fun x => [st x]) (fun x => x.size ≤ 1048576) fun x => bl (nameOk x))
def K_l4Sort : Nat × Contract := (Nm.spec_l4Sort, .sc Int (fun x => [i64 x]) (fun _ => True) fun x => bl (isSort x))
def K_isSort : Nat × Contract := (Nm.impl_isSort, .sc Int (fun x => [i64 x]) (fun _ => True) fun x => bl (isSort x))
def K_sSigOk : Nat × Contract := (Nm.spec_SigOk, .sc Sig (fun x => [sigA x]) SmG fun x => bl (sigOk x))
def K_iSigOk : Nat × Contract := (Nm.impl_SigOk, .sc Sig (fun x => [sigA x]) SmG fun x => bl (sigOk x))
def K_symok : Nat × Contract := (Nm.impl_Sym_ok, .sc Sym (fun x => [symA x]) (fun x => x.1.size ≤ 1048576 ∧ Sz x.2.1) fun x => bl (symOk x))
def K_symok1 : Nat × Contract := (Nm.impl_Sym_ok_1, .sc Int (fun x => [i64 x]) (fun _ => True) fun x => bl (!isSort x))
def K_IndexSort : Nat × Contract := (Nm.slices_IndexFunc_Sint_int, .sc (List Int) (fun x => [ints x, .fn (.func Nm.impl_Sym_ok_1) []]) (fun x => Sz x) fun x => i64 (idx (fun y => !isSort y) x))
def K_ContainsSort : Nat × Contract := (Nm.slices_ContainsFunc_Sint_int, .sc (List Int) (fun x => [ints x, .fn (.func Nm.impl_Sym_ok_1) []]) (fun x => Sz x) fun x => bl (x.any fun y => !isSort y))
def A_szSymS (s : Sig) (k : Int) : List Ann :=
  [.mk Nat (fun x => x ≤ s.length ∧ 0 ≤ k - s.length - sumN costY (s.take x)) (fun x => { fr := pad [syms s, i64 (k - s.length - sumN costY (s.take x)), .any, .any, .any, i64 x] 27, H := [] }) (fun x => s.length - x) (fun _ => [])]
def A_toSymS (s : Sig) : List Ann :=
  [.mk (Nat × Sig) (fun x => x.1 ≤ s.length ∧ x.2.length = s.length ∧ x.2.take x.1 = s.take x.1) (fun x => { fr := pad [syms s, .any, .any, .osl 0 0 x.2.length, i64 x.1] 23, H := [arY x.2] }) (fun x => s.length - x.1) (fun _ => [])]
def A_eqSymS (s t : Sig) : List Ann :=
  [.mk Nat (fun x => x ≤ s.length ∧ s.length = t.length ∧ (s = t ↔ s.drop x = t.drop x)) (fun x => { fr := pad [syms s, syms t, .any, .any, .any, i64 x] 27, H := [] }) (fun x => s.length - x) (fun _ => [])]
def A_sNameOk (s : ByteArray) : List Ann :=
  [.mk Nat (fun x => x ≤ s.size ∧ (bs s).all lower = ((bs s).drop x).all lower) (fun x => { fr := pad [st s, .any, .any, i64 x] 28, H := [] }) (fun x => s.size - x) (fun _ => [])]
def A_iNameOk (s : ByteArray) : List Ann :=
  [.mk Nat (fun x => x ≤ s.size ∧ (bs s).all lower = ((bs s).drop x).all lower) (fun x => { fr := pad [st s, .any, .any, .any, .any, .any, .any, .any, .any, i64 s.size, i64 x] 24, H := [] }) (fun x => s.size - x) (fun _ => [])]
def A_IndexSort (l : List Int) : List Ann :=
  [.mk Nat (fun x => x ≤ l.length ∧ idx (fun y => !isSort y) l = if idx (fun y => !isSort y) (l.drop x) < 0 then -1 else idx (fun y => !isSort y) (l.drop x) + x)
    (fun x => { fr := pad [ints l, .fn (.func Nm.impl_Sym_ok_1) [], .any, .any, .any, .any, .any, i64 l.length, i64 x] 19, H := [] }) (fun x => l.length - x) (fun _ => [])]
def A_sSigOk (s : Sig) : List Ann :=
  [.mk Nat (fun x => x ≤ s.length ∧ sigL none s = sigL (prevS s x) (s.drop x)) (fun x => { fr := pad [.any, .ptr 0 0, .any, i64 x] 68, H := [.var [syms s]] }) (fun x => s.length - x)
    (fun x => [.mk Nat (fun j => x < s.length ∧ j ≤ (s.getD x dY).2.1.length ∧ (s.getD x dY).2.1.all isSort = ((s.getD x dY).2.1.drop j).all isSort ∧ (nameOk (s.getD x dY).1 && decide ((s.getD x dY).2.1.length ≤ 2) && isSort (s.getD x dY).2.2) = true ∧ before (prevS s x) (s.getD x dY).1 = true)
      (fun j => { fr := pad [.any, .ptr 0 0, .any, i64 x, .ptr 1 0, i64 j] 68, H := [.var [syms s], .var [st (s.getD x dY).1, ints (s.getD x dY).2.1, i64 (s.getD x dY).2.2]] }) (fun j => (s.getD x dY).2.1.length - j) (fun _ => [])])]
def A_iSigOk (s : Sig) : List Ann :=
  [.mk Nat (fun x => x ≤ s.length ∧ sigL none s = sigL (prevS s x) (s.drop x)) (fun x => { fr := pad [.any, .ptr 0 0, .any, .any, .any, .any, syms s, i64 s.length, i64 x] 37, H := [.var [syms s]] }) (fun x => s.length - x) (fun _ => [])]
end Cg

/-
  Plain functions, and what is known of the codes' callees and loops: terms. No condition.
-/
namespace Pl
open Go
def shape : Nat → Tm → Bool
  | 0, _ => false
  | n + 1, t => nameOk t.val && decide (t.kids.length ≤ 2) && t.kids.all (shape n)
def manyD : Nat → Tm → Nat
  | 0, _ => 1
  | n + 1, t => 1 + sumN (manyD n) t.kids
def right (t : Tm) : Bool := shape 4 t && decide (manyD 4 t ≤ 12)
def tsz : Nat → Tm → Nat
  | 0, _ => 13
  | n + 1, t => if (!nameOk t.val || decide (t.kids.length > 2)) = true then 13 else 1 + sumN (tsz n) t.kids
def isTerm (t : Tm) : Bool := decide (tsz 4 t ≤ 12)
def find (s : Sig) (nm : ByteArray) : Option Sym := s.find? fun x => decide (x.1 = nm)
mutual
def sortT (s : Sig) : Tm → Option Int
  | .mk v ks => match find s v with
    | none => none
    | some x => if x.2.1.length ≠ ks.length then none else if sortL s ks x.2.1 = true then some x.2.2 else none
def sortL (s : Sig) : List Tm → List Int → Bool
  | [], _ => true
  | t :: ts, qs => decide (sortT s t = some (qs.headD 0)) && sortL s ts qs.tail
end
mutual
def costT : Tm → Nat
  | .mk v ks => v.size + ks.length + costTs ks
def costTs : List Tm → Nat
  | [] => 0
  | t :: ts => costT t + costTs ts
end
theorem costT_eq (t : Tm) : costT t = t.val.size + t.kids.length + costTs t.kids := by cases t; simp only [costT, Tree.val, Tree.kids]
theorem costT_mem {t : Tm} : ∀ {l : List Tm}, t ∈ l → costT t ≤ costTs l
  | u :: r, h => by
    unfold costTs
    cases List.mem_cons.1 h with
    | inl e => subst e; omega
    | inr e => have := costT_mem e; omega
/-- A thing that holds of all terms in a term. -/
inductive AllT (p : Tm → Prop) : Tm → Prop where
  | mk {t : Tm} (h : p t) (hk : ∀ u ∈ t.kids, AllT p u) : AllT p t
theorem AllT.here {p : Tm → Prop} {t : Tm} (h : AllT p t) : p t := by cases h; assumption
end Pl
namespace Cg
open Go Pl
def termA (x : TP) : AV := .agg [st x.1, terms x.2]
abbrev TP.tm (x : TP) : Tm := .mk x.1 x.2
abbrev MlT (t : Tm) : Prop := AllT (fun u => u.val.size ≤ 9223372036854775807 ∧ u.kids.length ≤ 9223372036854775807) t
abbrev SmT (t : Tm) : Prop := costT t ≤ 1048576
abbrev SmTs (l : List Tm) : Prop := l.length + costTs l ≤ 1048576
def A_szTermS (l : List Tm) (k : Int) : List Ann :=
  [.mk Nat (fun x => x ≤ l.length ∧ 0 ≤ k - l.length - costTs (l.take x)) (fun x => { fr := pad [terms l, i64 (k - l.length - costTs (l.take x)), .any, .any, .any, i64 x] 27, H := [] }) (fun x => l.length - x) (fun _ => [])]
def A_toTermS (l : List Tm) : List Ann :=
  [.mk (Nat × List Tm) (fun x => x.1 ≤ l.length ∧ x.2.length = l.length ∧ x.2.take x.1 = l.take x.1) (fun x => { fr := pad [terms l, .any, .any, .osl 0 0 x.2.length, i64 x.1] 23, H := [arT x.2] }) (fun x => l.length - x.1) (fun _ => [])]
def A_eqTermS (l m : List Tm) : List Ann :=
  [.mk Nat (fun x => x ≤ l.length ∧ l.length = m.length ∧ (l = m ↔ l.drop x = m.drop x)) (fun x => { fr := pad [terms l, terms m, .any, .any, .any, i64 x] 27, H := [] }) (fun x => l.length - x) (fun _ => [])]
end Cg

/-
  Plain functions, and what is known of the codes' callees and loops: the sorts of terms. No condition.
-/
namespace Pl
open Go
def symOf (s : Sig) (nm : ByteArray) : Sym := (find s nm).getD dY
def termSort (s : Sig) (t : Tm) : Int × Bool := if (sigOk s && right t) = true then ((sortT s t).getD 0, (sortT s t).isSome) else (0, false)
end Pl
namespace Cg
open Go Pl
def A_l4Shape (n : Nat) (a : ByteArray) (b : List Tm) : List Ann :=
  [.mk Nat (fun x => x ≤ b.length ∧ shape (n + 1) (.mk a b) = (b.drop x).all (shape n)) (fun x => { fr := pad [.any, i64 ((n + 1 : Nat) : Int), .ptr 0 0, .any, .any, i64 x] 36, H := [.var [st a, terms b]] }) (fun x => b.length - x) (fun _ => [])]
def A_l4Many (n : Nat) (a : ByteArray) (b : List Tm) : List Ann :=
  [.mk Nat (fun x => x ≤ b.length) (fun x => { fr := pad [.any, i64 ((n + 1 : Nat) : Int), .ptr 0 0, .any, .any, i64 ((1 + sumN (manyD n) (b.take x) : Nat) : Int), i64 x] 29, H := [.var [st a, terms b]] }) (fun x => b.length - x) (fun _ => [])]
def A_l4Many0 (a : ByteArray) (b : List Tm) : List Ann :=
  [.mk Unit (fun _ => True) (fun x => { fr := pad [.any, i64 0, .ptr 0 0, .any, .any, i64 1, i64 0] 29, H := [.var [st a, terms b]] }) (fun _ => 0) (fun _ => [])]
def A_termSize (n : Nat) (a : ByteArray) (b : List Tm) : List Ann :=
  [.mk Nat (fun x => x ≤ b.length ∧ b.length ≤ 2) (fun x => { fr := pad [.any, i64 (5 - ((n + 1 : Nat) : Int)), .ptr 0 0, .any, .any, i64 ((1 + sumN (tsz n) (b.take x) : Nat) : Int), .any, .any, .any, .any, .any, .any, .any, .any, .any, .any, .any, .any, .any, .any, .any, .any, .any, terms b, i64 b.length, i64 x] 37, H := [.var [st a, terms b]] }) (fun x => b.length - x) (fun _ => [])]
def A_l4Find (s : Sig) (nm : ByteArray) : List Ann :=
  [.mk Nat (fun x => x ≤ s.length ∧ find s nm = find (s.drop x) nm) (fun x => { fr := pad [.any, st nm, .ptr 0 0, .any, .ptr 1 0, .any, i64 x] 28, H := [.var [syms s], .var [st ByteArray.empty, nilA, i64 0]] }) (fun x => s.length - x) (fun _ => [])]
def A_symbol (s : Sig) (nm : ByteArray) : List Ann :=
  [.mk Nat (fun x => x ≤ s.length ∧ find s nm = find (s.drop x) nm) (fun x => { fr := pad [.any, st nm, .ptr 0 0, .any, .ptr 1 0, .any, .any, .any, .any, syms s, i64 s.length, i64 x] 22, H := [.var [syms s], .var [st ByteArray.empty, nilA, i64 0]] }) (fun x => s.length - x) (fun _ => [])]
def A_l4Of (s : Sig) (a : ByteArray) (b : List Tm) : List Ann :=
  [.mk Nat (fun x => x ≤ b.length ∧ (symOf s a).2.1.length = b.length ∧ (find s a).isSome = true ∧ sortL s b (symOf s a).2.1 = sortL s (b.drop x) ((symOf s a).2.1.drop x))
    (fun x => { fr := pad [.any, .any, .ptr 0 0, .ptr 1 0, .any, .ptr 2 0, .any, i64 x] 48, H := [.var [syms s], .var [st a, terms b], .var [st (symOf s a).1, ints (symOf s a).2.1, i64 (symOf s a).2.2]] }) (fun x => b.length - x) (fun _ => [])]
def A_sortOf (s : Sig) (a : ByteArray) (b : List Tm) : List Ann :=
  [.mk Nat (fun x => x ≤ b.length ∧ (symOf s a).2.1.length = b.length ∧ (find s a).isSome = true ∧ sortL s b (symOf s a).2.1 = sortL s (b.drop x) ((symOf s a).2.1.drop x))
    (fun x => { fr := pad [.any, .any, .ptr 0 0, .ptr 1 0, .any, .any, .ptr 2 0, .any, .any, .any, .any, .any, .any, .any, .any, .any, .any, .any, .any, .any, .any, .any, .any, .any, .any, .any, .any, .any, .any, .any, .any, terms b, i64 b.length, i64 x] 58, H := [.var [syms s], .var [st a, terms b], .var [st (symOf s a).1, ints (symOf s a).2.1, i64 (symOf s a).2.2]] }) (fun x => b.length - x) (fun _ => [])]
end Cg

/-
  Plain functions, and what is known of the codes' callees and loops: clause sets. No condition.
-/
namespace Pl
abbrev Cnf := Int × List (List Int)
def cnfOk (c : Cnf) : Bool := decide (0 ≤ c.1) && decide (c.1 ≤ 60) && decide (c.2.length ≤ 400) && c.2.all fun x => specClause x c.1
def cnfIs (c : Cnf) (v : List Bool) : Bool := cnfOk c && decide ((v.length : Int) = c.1) && c.2.all fun x => clauseIs x v
end Pl
namespace Cg
open Go
def cnf (c : Pl.Cnf) : AV := .agg [i64 c.1, intss c.2]
def patCnf (m : Int) (l : List (List Int)) : AV := cnf (m, l)
abbrev SzC (c : Pl.Cnf) : Prop := SzL c.2
def A_l5Ints (l m : List Int) : List Ann :=
  [.mk Nat (fun x => x ≤ l.length ∧ l.length = m.length ∧ (l = m ↔ l.drop x = m.drop x)) (fun x => { fr := pad [ints l, ints m, .any, .any, .any, i64 x] 26, H := [] }) (fun x => l.length - x) (fun _ => [])]
def A_slEqual (l m : List Int) : List Ann :=
  [.mk Nat (fun x => x ≤ l.length ∧ l.length = m.length ∧ (l = m ↔ l.drop x = m.drop x)) (fun x => { fr := pad [ints l, ints m, .any, .any, .any, .any, .any, .any, .any, .any, .any, .any, i64 l.length, i64 x] 26, H := [] }) (fun x => l.length - x) (fun _ => [])]
def A_sCnfSame (c d : Pl.Cnf) : List Ann :=
  [.mk Nat (fun x => x ≤ c.2.length ∧ c.2.length = d.2.length ∧ c.1 = d.1 ∧ (c.2 = d.2 ↔ c.2.drop x = d.2.drop x)) (fun x => { fr := pad [.any, .any, .ptr 0 0, .ptr 1 0, .any, i64 x] 39, H := [.var [i64 c.1, intss c.2], .var [i64 d.1, intss d.2]] }) (fun x => c.2.length - x) (fun _ => [])]
def A_sCnfOk (c : Pl.Cnf) : List Ann :=
  [.mk Nat (fun x => x ≤ c.2.length ∧ Pl.cnfOk c = (c.2.drop x).all fun y => Pl.specClause y c.1) (fun x => { fr := pad [.any, .ptr 0 0, .any, i64 x] 34, H := [.var [i64 c.1, intss c.2]] }) (fun x => c.2.length - x) (fun _ => [])]
def A_sCnfIs (c : Pl.Cnf) (v : List Bool) : List Ann :=
  [.mk Nat (fun x => x ≤ c.2.length ∧ Pl.cnfIs c v = (c.2.drop x).all fun y => Pl.clauseIs y v) (fun x => { fr := pad [.any, bools v, .ptr 0 0, .any, .any, i64 x] 31, H := [.var [i64 c.1, intss c.2]] }) (fun x => c.2.length - x) (fun _ => [])]
end Cg

/-
  Atoms, formulas, explanations, cases: how they lie in cells; sizes, copies, equality. No condition.
-/
set_option linter.unusedVariables false
set_option linter.unusedSimpArgs false
namespace Pl
mutual
/-- What a tree costs, and trees, by what its things cost. -/
def costTr {α : Type} (f : α → Nat) : Tree α → Nat
  | .mk v ks => f v + ks.length + costTrs f ks
def costTrs {α : Type} (f : α → Nat) : List (Tree α) → Nat
  | [] => 0
  | t :: ts => costTr f t + costTrs f ts
end
/-- A thing that holds of all trees in a tree. -/
inductive AllTr {α : Type} (p : Tree α → Prop) : Tree α → Prop where
  | mk {t : Tree α} (h : p t) (hk : ∀ u ∈ t.kids, AllTr p u) : AllTr p t
section
variable {α : Type} {f : α → Nat}
theorem AllTr.here {p : Tree α → Prop} {t : Tree α} (h : AllTr p t) : p t := by cases h; assumption
end
abbrev Atm := Int × TP × TP × List Tm × List Int × Int × Bool
abbrev Ltr := Atm × Bool
abbrev PF := Int × Ltr
abbrev Frm := Tree PF
abbrev FP := PF × List Frm
abbrev PW := Int × Int × TP
abbrev Wy := Tree PW
abbrev WP := PW × List Wy
abbrev PC := Int × Int × WP × List Int × TP × TP
abbrev Cse := Tree PC
abbrev CP := PC × List Cse
noncomputable instance instA : DecidableEq Atm := fun a b => Classical.propDecidable (a = b)
noncomputable instance instL : DecidableEq Ltr := fun a b => Classical.propDecidable (a = b)
noncomputable instance instPF : DecidableEq PF := fun a b => Classical.propDecidable (a = b)
noncomputable instance instFP : DecidableEq FP := fun a b => Classical.propDecidable (a = b)
noncomputable instance instWP : DecidableEq WP := fun a b => Classical.propDecidable (a = b)
noncomputable instance instPC : DecidableEq PC := fun a b => Classical.propDecidable (a = b)
noncomputable instance instCP : DecidableEq CP := fun a b => Classical.propDecidable (a = b)
def dPF : PF := (0, (0, (ByteArray.empty, []), (ByteArray.empty, []), [], [], 0, false), false)
def dF : Frm := .mk dPF []
def dPW : PW := (0, 0, ByteArray.empty, [])
def dW : Wy := .mk dPW []
def dPC : PC := (0, 0, (dPW, []), [], (ByteArray.empty, []), (ByteArray.empty, []))
def dC : Cse := .mk dPC []
def costA (x : Atm) : Nat := costT (.mk x.2.1.1 x.2.1.2) + costT (.mk x.2.2.1.1 x.2.2.1.2) + (x.2.2.2.1.length + costTs x.2.2.2.1) + x.2.2.2.2.1.length
def costL (x : Ltr) : Nat := costA x.1
def costPF (x : PF) : Nat := costL x.2
def costPW (x : PW) : Nat := costT (.mk x.2.2.1 x.2.2.2)
def costPC (x : PC) : Nat := costTr costPW (.mk x.2.2.1.1 x.2.2.1.2) + x.2.2.2.1.length + costT (.mk x.2.2.2.2.1.1 x.2.2.2.2.1.2) + costT (.mk x.2.2.2.2.2.1 x.2.2.2.2.2.2)
end Pl
namespace Cg
open Go Pl
def ePF (x : PF) (j : Nat) : AV := match j with
  | 0 => i64 x.1
  | 1 => i64 x.2.1.1
  | 2 => st x.2.1.2.1.1
  | 3 => terms x.2.1.2.1.2
  | 4 => st x.2.1.2.2.1.1
  | 5 => terms x.2.1.2.2.1.2
  | 6 => terms x.2.1.2.2.2.1
  | 7 => ints x.2.1.2.2.2.2.1
  | 8 => i64 x.2.1.2.2.2.2.2.1
  | 9 => bl x.2.1.2.2.2.2.2.2
  | _ => bl x.2.2
theorem EncN.ePF : EncN 11 ePF := fun x y => by
  constructor
  · intro h
    have h0 : Is (i64 x.1) (i64 y.1) := h 0 (by decide)
    have h1 : Is (i64 x.2.1.1) (i64 y.2.1.1) := h 1 (by decide)
    have h2 : Is (st x.2.1.2.1.1) (st y.2.1.2.1.1) := h 2 (by decide)
    have h3 : Is (terms x.2.1.2.1.2) (terms y.2.1.2.1.2) := h 3 (by decide)
    have h4 : Is (st x.2.1.2.2.1.1) (st y.2.1.2.2.1.1) := h 4 (by decide)
    have h5 : Is (terms x.2.1.2.2.1.2) (terms y.2.1.2.2.1.2) := h 5 (by decide)
    have h6 : Is (terms x.2.1.2.2.2.1) (terms y.2.1.2.2.2.1) := h 6 (by decide)
    have h7 : Is (ints x.2.1.2.2.2.2.1) (ints y.2.1.2.2.2.2.1) := h 7 (by decide)
    have h8 : Is (i64 x.2.1.2.2.2.2.2.1) (i64 y.2.1.2.2.2.2.2.1) := h 8 (by decide)
    have h9 : Is (bl x.2.1.2.2.2.2.2.2) (bl y.2.1.2.2.2.2.2.2) := h 9 (by decide)
    have h10 : Is (bl x.2.2) (bl y.2.2) := h 10 (by decide)
    simp only [Is_i64, Is_u8, Is_bl, Is_st, Is_ints, Is_bools, Is_strs, Is_intss, Is_terms] at h0 h1 h2 h3 h4 h5 h6 h7 h8 h9 h10
    grind
  · rintro rfl j hj
    match j, hj with
    | 0, _ => show Is (i64 x.1) (i64 x.1); simp
    | 1, _ => show Is (i64 x.2.1.1) (i64 x.2.1.1); simp
    | 2, _ => show Is (st x.2.1.2.1.1) (st x.2.1.2.1.1); simp
    | 3, _ => show Is (terms x.2.1.2.1.2) (terms x.2.1.2.1.2); simp
    | 4, _ => show Is (st x.2.1.2.2.1.1) (st x.2.1.2.2.1.1); simp
    | 5, _ => show Is (terms x.2.1.2.2.1.2) (terms x.2.1.2.2.1.2); simp
    | 6, _ => show Is (terms x.2.1.2.2.2.1) (terms x.2.1.2.2.2.1); simp
    | 7, _ => show Is (ints x.2.1.2.2.2.2.1) (ints x.2.1.2.2.2.2.1); simp
    | 8, _ => show Is (i64 x.2.1.2.2.2.2.2.1) (i64 x.2.1.2.2.2.2.2.1); simp
    | 9, _ => show Is (bl x.2.1.2.2.2.2.2.2) (bl x.2.1.2.2.2.2.2.2); simp
    | 10, _ => show Is (bl x.2.2) (bl x.2.2); simp
def subF (t : Frm) : Nat → Nat → AV := subTr 11 ePF t
def eF (t : Frm) (j : Nat) : AV := match j with
  | 0 => i64 t.val.1
  | 1 => i64 t.val.2.1.1
  | 2 => st t.val.2.1.2.1.1
  | 3 => terms t.val.2.1.2.1.2
  | 4 => st t.val.2.1.2.2.1.1
  | 5 => terms t.val.2.1.2.2.1.2
  | 6 => terms t.val.2.1.2.2.2.1
  | 7 => ints t.val.2.1.2.2.2.2.1
  | 8 => i64 t.val.2.1.2.2.2.2.2.1
  | 9 => bl t.val.2.1.2.2.2.2.2.2
  | 10 => bl t.val.2.2
  | _ => .sl t.kids.length 12 (subF t)
theorem eF_tr (t : Frm) : ∀ j, j < 12 → eF t j = eTr 11 ePF t j
  | 0, _ => (eTr_lt (k := 11) (e := ePF) (t := t) (j := 0) (by decide)).symm
  | 1, _ => (eTr_lt (k := 11) (e := ePF) (t := t) (j := 1) (by decide)).symm
  | 2, _ => (eTr_lt (k := 11) (e := ePF) (t := t) (j := 2) (by decide)).symm
  | 3, _ => (eTr_lt (k := 11) (e := ePF) (t := t) (j := 3) (by decide)).symm
  | 4, _ => (eTr_lt (k := 11) (e := ePF) (t := t) (j := 4) (by decide)).symm
  | 5, _ => (eTr_lt (k := 11) (e := ePF) (t := t) (j := 5) (by decide)).symm
  | 6, _ => (eTr_lt (k := 11) (e := ePF) (t := t) (j := 6) (by decide)).symm
  | 7, _ => (eTr_lt (k := 11) (e := ePF) (t := t) (j := 7) (by decide)).symm
  | 8, _ => (eTr_lt (k := 11) (e := ePF) (t := t) (j := 8) (by decide)).symm
  | 9, _ => (eTr_lt (k := 11) (e := ePF) (t := t) (j := 9) (by decide)).symm
  | 10, _ => (eTr_lt (k := 11) (e := ePF) (t := t) (j := 10) (by decide)).symm
  | 11, _ => (eTr_kids (k := 11) (e := ePF) (t := t)).symm
theorem EncN.eF : EncN 12 eF := fun x y => by
  rw [← EncN.tr EncN.ePF x y]
  exact ⟨fun h j hj => by rw [← eF_tr x j hj, ← eF_tr y j hj]; exact h j hj, fun h j hj => by rw [eF_tr x j hj, eF_tr y j hj]; exact h j hj⟩
def kidsF (t : Frm) : AV := .sl t.kids.length 12 (subF t)
def cF (l : List Frm) : Nat → Nat → AV := fun i j => eF (l.getD i dF) j
def forms (l : List Frm) : AV := .sl l.length 12 fun i j => eF (l.getD i dF) j
def arF (l : List Frm) : AObj := .arr l.length 12 fun i j => eF (l.getD i dF) j
theorem Enc.forms : Enc forms := Enc.sln (by decide) EncN.eF dF
@[simp] theorem Is_forms {x y : List Frm} : Is (forms x) (forms y) ↔ x = y := Enc.forms x y
@[simp] theorem IsO_forms {x y : List Frm} : IsO (arF x) (arF y) ↔ y = [] ∨ x = y := IsO_arn EncN.eF
@[simp] theorem IsO_forms0 {n : Nat} {c : Nat → Nat → AV} : IsO (.arr n 12 c) (arF []) := IsO_nil
@[simp] theorem forms_nil {q : Nat} {c : Nat → Nat → AV} {m : List Frm} : Is (.lit 0 q c) (forms m) ↔ m = [] := nil_sln
@[simp] theorem forms_nilA {m : List Frm} : Is nilA (forms m) ↔ m = [] := nil_sln
@[simp] theorem forms_join {l m : List Frm} : IsO (.arr (l.length + m.length) 12 (joinC l.length (cF l) (cF m))) (arF (l ++ m)) := IsO_join EncN.eF (IsR_cel EncN.eF)
@[simp] theorem forms_join0 {m : List Frm} {c : Nat → Nat → AV} : IsO (.arr (0 + m.length) 12 (joinC 0 c (cF m))) (arF m) := IsO_join0 EncN.eF (IsR_cel EncN.eF)
@[simp] theorem forms_join0' {m : List Frm} {c : Nat → Nat → AV} : IsO (.arr m.length 12 (joinC 0 c (cF m))) (arF m) := IsO_join0 EncN.eF (IsR_cel EncN.eF)
@[simp] theorem Is_kidsF {t : Frm} {m : List Frm} : Is (kidsF t) (forms m) ↔ t.kids = m :=
  Is_sl_iff2 (d := dF) (by decide) (fun x _ y => EncN.eF x y) (fun i hi j hj => by rw [eF_tr _ j hj]; exact subTr_get dF t i hi j) (fun i _ j _ => rfl)
@[simp] theorem Is_forms_kidsF {t : Frm} {m : List Frm} : Is (forms m) (kidsF t) ↔ m = t.kids :=
  Is_sl_iff2 (d := dF) (by decide) (fun x _ y => EncN.eF x y) (fun i _ j _ => rfl) (fun i hi j hj => by rw [eF_tr _ j hj]; exact subTr_get dF t i hi j)
@[simp] theorem Is_kidsF2 {t u : Frm} : Is (kidsF t) (kidsF u) ↔ t.kids = u.kids :=
  Is_sl_iff2 (d := dF) (by decide) (fun x _ y => EncN.eF x y) (fun i hi j hj => by rw [eF_tr _ j hj]; exact subTr_get dF t i hi j) (fun i hi j hj => by rw [eF_tr _ j hj]; exact subTr_get dF u i hi j)
def ePW (x : PW) (j : Nat) : AV := match j with
  | 0 => i64 x.1
  | 1 => i64 x.2.1
  | 2 => st x.2.2.1
  | _ => terms x.2.2.2
theorem EncN.ePW : EncN 4 ePW := fun x y => by
  constructor
  · intro h
    have h0 : Is (i64 x.1) (i64 y.1) := h 0 (by decide)
    have h1 : Is (i64 x.2.1) (i64 y.2.1) := h 1 (by decide)
    have h2 : Is (st x.2.2.1) (st y.2.2.1) := h 2 (by decide)
    have h3 : Is (terms x.2.2.2) (terms y.2.2.2) := h 3 (by decide)
    simp only [Is_i64, Is_u8, Is_bl, Is_st, Is_ints, Is_bools, Is_strs, Is_intss, Is_terms] at h0 h1 h2 h3
    grind
  · rintro rfl j hj
    match j, hj with
    | 0, _ => show Is (i64 x.1) (i64 x.1); simp
    | 1, _ => show Is (i64 x.2.1) (i64 x.2.1); simp
    | 2, _ => show Is (st x.2.2.1) (st x.2.2.1); simp
    | 3, _ => show Is (terms x.2.2.2) (terms x.2.2.2); simp
def subW (t : Wy) : Nat → Nat → AV := subTr 4 ePW t
def eW (t : Wy) (j : Nat) : AV := match j with
  | 0 => i64 t.val.1
  | 1 => i64 t.val.2.1
  | 2 => st t.val.2.2.1
  | 3 => terms t.val.2.2.2
  | _ => .sl t.kids.length 5 (subW t)
theorem eW_tr (t : Wy) : ∀ j, j < 5 → eW t j = eTr 4 ePW t j
  | 0, _ => (eTr_lt (k := 4) (e := ePW) (t := t) (j := 0) (by decide)).symm
  | 1, _ => (eTr_lt (k := 4) (e := ePW) (t := t) (j := 1) (by decide)).symm
  | 2, _ => (eTr_lt (k := 4) (e := ePW) (t := t) (j := 2) (by decide)).symm
  | 3, _ => (eTr_lt (k := 4) (e := ePW) (t := t) (j := 3) (by decide)).symm
  | 4, _ => (eTr_kids (k := 4) (e := ePW) (t := t)).symm
theorem EncN.eW : EncN 5 eW := fun x y => by
  rw [← EncN.tr EncN.ePW x y]
  exact ⟨fun h j hj => by rw [← eW_tr x j hj, ← eW_tr y j hj]; exact h j hj, fun h j hj => by rw [eW_tr x j hj, eW_tr y j hj]; exact h j hj⟩
def kidsW (t : Wy) : AV := .sl t.kids.length 5 (subW t)
def cW (l : List Wy) : Nat → Nat → AV := fun i j => eW (l.getD i dW) j
def whys (l : List Wy) : AV := .sl l.length 5 fun i j => eW (l.getD i dW) j
def arW (l : List Wy) : AObj := .arr l.length 5 fun i j => eW (l.getD i dW) j
theorem Enc.whys : Enc whys := Enc.sln (by decide) EncN.eW dW
@[simp] theorem Is_whys {x y : List Wy} : Is (whys x) (whys y) ↔ x = y := Enc.whys x y
@[simp] theorem IsO_whys {x y : List Wy} : IsO (arW x) (arW y) ↔ y = [] ∨ x = y := IsO_arn EncN.eW
@[simp] theorem IsO_whys0 {n : Nat} {c : Nat → Nat → AV} : IsO (.arr n 5 c) (arW []) := IsO_nil
@[simp] theorem whys_nil {q : Nat} {c : Nat → Nat → AV} {m : List Wy} : Is (.lit 0 q c) (whys m) ↔ m = [] := nil_sln
@[simp] theorem whys_nilA {m : List Wy} : Is nilA (whys m) ↔ m = [] := nil_sln
@[simp] theorem whys_join {l m : List Wy} : IsO (.arr (l.length + m.length) 5 (joinC l.length (cW l) (cW m))) (arW (l ++ m)) := IsO_join EncN.eW (IsR_cel EncN.eW)
@[simp] theorem whys_join0 {m : List Wy} {c : Nat → Nat → AV} : IsO (.arr (0 + m.length) 5 (joinC 0 c (cW m))) (arW m) := IsO_join0 EncN.eW (IsR_cel EncN.eW)
@[simp] theorem whys_join0' {m : List Wy} {c : Nat → Nat → AV} : IsO (.arr m.length 5 (joinC 0 c (cW m))) (arW m) := IsO_join0 EncN.eW (IsR_cel EncN.eW)
@[simp] theorem Is_kidsW {t : Wy} {m : List Wy} : Is (kidsW t) (whys m) ↔ t.kids = m :=
  Is_sl_iff2 (d := dW) (by decide) (fun x _ y => EncN.eW x y) (fun i hi j hj => by rw [eW_tr _ j hj]; exact subTr_get dW t i hi j) (fun i _ j _ => rfl)
@[simp] theorem Is_whys_kidsW {t : Wy} {m : List Wy} : Is (whys m) (kidsW t) ↔ m = t.kids :=
  Is_sl_iff2 (d := dW) (by decide) (fun x _ y => EncN.eW x y) (fun i _ j _ => rfl) (fun i hi j hj => by rw [eW_tr _ j hj]; exact subTr_get dW t i hi j)
@[simp] theorem Is_kidsW2 {t u : Wy} : Is (kidsW t) (kidsW u) ↔ t.kids = u.kids :=
  Is_sl_iff2 (d := dW) (by decide) (fun x _ y => EncN.eW x y) (fun i hi j hj => by rw [eW_tr _ j hj]; exact subTr_get dW t i hi j) (fun i hi j hj => by rw [eW_tr _ j hj]; exact subTr_get dW u i hi j)
def ePC (x : PC) (j : Nat) : AV := match j with
  | 0 => i64 x.1
  | 1 => i64 x.2.1
  | 2 => i64 x.2.2.1.1.1
  | 3 => i64 x.2.2.1.1.2.1
  | 4 => st x.2.2.1.1.2.2.1
  | 5 => terms x.2.2.1.1.2.2.2
  | 6 => whys x.2.2.1.2
  | 7 => ints x.2.2.2.1
  | 8 => st x.2.2.2.2.1.1
  | 9 => terms x.2.2.2.2.1.2
  | 10 => st x.2.2.2.2.2.1
  | _ => terms x.2.2.2.2.2.2
theorem EncN.ePC : EncN 12 ePC := fun x y => by
  constructor
  · intro h
    have h0 : Is (i64 x.1) (i64 y.1) := h 0 (by decide)
    have h1 : Is (i64 x.2.1) (i64 y.2.1) := h 1 (by decide)
    have h2 : Is (i64 x.2.2.1.1.1) (i64 y.2.2.1.1.1) := h 2 (by decide)
    have h3 : Is (i64 x.2.2.1.1.2.1) (i64 y.2.2.1.1.2.1) := h 3 (by decide)
    have h4 : Is (st x.2.2.1.1.2.2.1) (st y.2.2.1.1.2.2.1) := h 4 (by decide)
    have h5 : Is (terms x.2.2.1.1.2.2.2) (terms y.2.2.1.1.2.2.2) := h 5 (by decide)
    have h6 : Is (whys x.2.2.1.2) (whys y.2.2.1.2) := h 6 (by decide)
    have h7 : Is (ints x.2.2.2.1) (ints y.2.2.2.1) := h 7 (by decide)
    have h8 : Is (st x.2.2.2.2.1.1) (st y.2.2.2.2.1.1) := h 8 (by decide)
    have h9 : Is (terms x.2.2.2.2.1.2) (terms y.2.2.2.2.1.2) := h 9 (by decide)
    have h10 : Is (st x.2.2.2.2.2.1) (st y.2.2.2.2.2.1) := h 10 (by decide)
    have h11 : Is (terms x.2.2.2.2.2.2) (terms y.2.2.2.2.2.2) := h 11 (by decide)
    simp only [Is_i64, Is_u8, Is_bl, Is_st, Is_ints, Is_bools, Is_strs, Is_intss, Is_terms, Is_whys] at h0 h1 h2 h3 h4 h5 h6 h7 h8 h9 h10 h11
    grind
  · rintro rfl j hj
    match j, hj with
    | 0, _ => show Is (i64 x.1) (i64 x.1); simp
    | 1, _ => show Is (i64 x.2.1) (i64 x.2.1); simp
    | 2, _ => show Is (i64 x.2.2.1.1.1) (i64 x.2.2.1.1.1); simp
    | 3, _ => show Is (i64 x.2.2.1.1.2.1) (i64 x.2.2.1.1.2.1); simp
    | 4, _ => show Is (st x.2.2.1.1.2.2.1) (st x.2.2.1.1.2.2.1); simp
    | 5, _ => show Is (terms x.2.2.1.1.2.2.2) (terms x.2.2.1.1.2.2.2); simp
    | 6, _ => show Is (whys x.2.2.1.2) (whys x.2.2.1.2); simp
    | 7, _ => show Is (ints x.2.2.2.1) (ints x.2.2.2.1); simp
    | 8, _ => show Is (st x.2.2.2.2.1.1) (st x.2.2.2.2.1.1); simp
    | 9, _ => show Is (terms x.2.2.2.2.1.2) (terms x.2.2.2.2.1.2); simp
    | 10, _ => show Is (st x.2.2.2.2.2.1) (st x.2.2.2.2.2.1); simp
    | 11, _ => show Is (terms x.2.2.2.2.2.2) (terms x.2.2.2.2.2.2); simp
def subC (t : Cse) : Nat → Nat → AV := subTr 12 ePC t
def eC (t : Cse) (j : Nat) : AV := match j with
  | 0 => i64 t.val.1
  | 1 => i64 t.val.2.1
  | 2 => i64 t.val.2.2.1.1.1
  | 3 => i64 t.val.2.2.1.1.2.1
  | 4 => st t.val.2.2.1.1.2.2.1
  | 5 => terms t.val.2.2.1.1.2.2.2
  | 6 => whys t.val.2.2.1.2
  | 7 => ints t.val.2.2.2.1
  | 8 => st t.val.2.2.2.2.1.1
  | 9 => terms t.val.2.2.2.2.1.2
  | 10 => st t.val.2.2.2.2.2.1
  | 11 => terms t.val.2.2.2.2.2.2
  | _ => .sl t.kids.length 13 (subC t)
theorem eC_tr (t : Cse) : ∀ j, j < 13 → eC t j = eTr 12 ePC t j
  | 0, _ => (eTr_lt (k := 12) (e := ePC) (t := t) (j := 0) (by decide)).symm
  | 1, _ => (eTr_lt (k := 12) (e := ePC) (t := t) (j := 1) (by decide)).symm
  | 2, _ => (eTr_lt (k := 12) (e := ePC) (t := t) (j := 2) (by decide)).symm
  | 3, _ => (eTr_lt (k := 12) (e := ePC) (t := t) (j := 3) (by decide)).symm
  | 4, _ => (eTr_lt (k := 12) (e := ePC) (t := t) (j := 4) (by decide)).symm
  | 5, _ => (eTr_lt (k := 12) (e := ePC) (t := t) (j := 5) (by decide)).symm
  | 6, _ => (eTr_lt (k := 12) (e := ePC) (t := t) (j := 6) (by decide)).symm
  | 7, _ => (eTr_lt (k := 12) (e := ePC) (t := t) (j := 7) (by decide)).symm
  | 8, _ => (eTr_lt (k := 12) (e := ePC) (t := t) (j := 8) (by decide)).symm
  | 9, _ => (eTr_lt (k := 12) (e := ePC) (t := t) (j := 9) (by decide)).symm
  | 10, _ => (eTr_lt (k := 12) (e := ePC) (t := t) (j := 10) (by decide)).symm
  | 11, _ => (eTr_lt (k := 12) (e := ePC) (t := t) (j := 11) (by decide)).symm
  | 12, _ => (eTr_kids (k := 12) (e := ePC) (t := t)).symm
theorem EncN.eC : EncN 13 eC := fun x y => by
  rw [← EncN.tr EncN.ePC x y]
  exact ⟨fun h j hj => by rw [← eC_tr x j hj, ← eC_tr y j hj]; exact h j hj, fun h j hj => by rw [eC_tr x j hj, eC_tr y j hj]; exact h j hj⟩
def kidsC (t : Cse) : AV := .sl t.kids.length 13 (subC t)
def cC (l : List Cse) : Nat → Nat → AV := fun i j => eC (l.getD i dC) j
def cases (l : List Cse) : AV := .sl l.length 13 fun i j => eC (l.getD i dC) j
def arC (l : List Cse) : AObj := .arr l.length 13 fun i j => eC (l.getD i dC) j
theorem Enc.cases : Enc cases := Enc.sln (by decide) EncN.eC dC
@[simp] theorem Is_cases {x y : List Cse} : Is (cases x) (cases y) ↔ x = y := Enc.cases x y
@[simp] theorem IsO_cases {x y : List Cse} : IsO (arC x) (arC y) ↔ y = [] ∨ x = y := IsO_arn EncN.eC
@[simp] theorem IsO_cases0 {n : Nat} {c : Nat → Nat → AV} : IsO (.arr n 13 c) (arC []) := IsO_nil
@[simp] theorem cases_nil {q : Nat} {c : Nat → Nat → AV} {m : List Cse} : Is (.lit 0 q c) (cases m) ↔ m = [] := nil_sln
@[simp] theorem cases_nilA {m : List Cse} : Is nilA (cases m) ↔ m = [] := nil_sln
@[simp] theorem cases_join {l m : List Cse} : IsO (.arr (l.length + m.length) 13 (joinC l.length (cC l) (cC m))) (arC (l ++ m)) := IsO_join EncN.eC (IsR_cel EncN.eC)
@[simp] theorem cases_join0 {m : List Cse} {c : Nat → Nat → AV} : IsO (.arr (0 + m.length) 13 (joinC 0 c (cC m))) (arC m) := IsO_join0 EncN.eC (IsR_cel EncN.eC)
@[simp] theorem cases_join0' {m : List Cse} {c : Nat → Nat → AV} : IsO (.arr m.length 13 (joinC 0 c (cC m))) (arC m) := IsO_join0 EncN.eC (IsR_cel EncN.eC)
@[simp] theorem Is_kidsC {t : Cse} {m : List Cse} : Is (kidsC t) (cases m) ↔ t.kids = m :=
  Is_sl_iff2 (d := dC) (by decide) (fun x _ y => EncN.eC x y) (fun i hi j hj => by rw [eC_tr _ j hj]; exact subTr_get dC t i hi j) (fun i _ j _ => rfl)
@[simp] theorem Is_cases_kidsC {t : Cse} {m : List Cse} : Is (cases m) (kidsC t) ↔ m = t.kids :=
  Is_sl_iff2 (d := dC) (by decide) (fun x _ y => EncN.eC x y) (fun i _ j _ => rfl) (fun i hi j hj => by rw [eC_tr _ j hj]; exact subTr_get dC t i hi j)
@[simp] theorem Is_kidsC2 {t u : Cse} : Is (kidsC t) (kidsC u) ↔ t.kids = u.kids :=
  Is_sl_iff2 (d := dC) (by decide) (fun x _ y => EncN.eC x y) (fun i hi j hj => by rw [eC_tr _ j hj]; exact subTr_get dC t i hi j) (fun i hi j hj => by rw [eC_tr _ j hj]; exact subTr_get dC u i hi j)
def atomA (x : Atm) : AV := .agg [i64 x.1, st x.2.1.1, terms x.2.1.2, st x.2.2.1.1, terms x.2.2.1.2, terms x.2.2.2.1, ints x.2.2.2.2.1, i64 x.2.2.2.2.2.1, bl x.2.2.2.2.2.2]
def litA (x : Ltr) : AV := .agg [i64 x.1.1, st x.1.2.1.1, terms x.1.2.1.2, st x.1.2.2.1.1, terms x.1.2.2.1.2, terms x.1.2.2.2.1, ints x.1.2.2.2.2.1, i64 x.1.2.2.2.2.2.1, bl x.1.2.2.2.2.2.2, bl x.2]
def formA (x : FP) : AV := .agg [i64 x.1.1, i64 x.1.2.1.1, st x.1.2.1.2.1.1, terms x.1.2.1.2.1.2, st x.1.2.1.2.2.1.1, terms x.1.2.1.2.2.1.2, terms x.1.2.1.2.2.2.1, ints x.1.2.1.2.2.2.2.1, i64 x.1.2.1.2.2.2.2.2.1, bl x.1.2.1.2.2.2.2.2.2, bl x.1.2.2, forms x.2]
def whyA (x : WP) : AV := .agg [i64 x.1.1, i64 x.1.2.1, st x.1.2.2.1, terms x.1.2.2.2, whys x.2]
def caseA (x : CP) : AV := .agg [i64 x.1.1, i64 x.1.2.1, i64 x.1.2.2.1.1.1, i64 x.1.2.2.1.1.2.1, st x.1.2.2.1.1.2.2.1, terms x.1.2.2.1.1.2.2.2, whys x.1.2.2.1.2, ints x.1.2.2.2.1, st x.1.2.2.2.2.1.1, terms x.1.2.2.2.2.1.2, st x.1.2.2.2.2.2.1, terms x.1.2.2.2.2.2.2, cases x.2]
abbrev MlA (x : Atm) : Prop := MlT (.mk x.2.1.1 x.2.1.2) ∧ MlT (.mk x.2.2.1.1 x.2.2.1.2) ∧ (Ml x.2.2.2.1 ∧ ∀ t ∈ x.2.2.2.1, MlT t) ∧ Ml x.2.2.2.2.1
abbrev MlF (t : Frm) : Prop := AllTr (fun u => MlA u.val.2.1 ∧ Ml u.kids) t
abbrev MlW (t : Wy) : Prop := AllTr (fun u => MlT (.mk u.val.2.2.1 u.val.2.2.2) ∧ Ml u.kids) t
abbrev MlC (t : Cse) : Prop := AllTr (fun u => MlW (.mk u.val.2.2.1.1 u.val.2.2.1.2) ∧ Ml u.val.2.2.2.1 ∧ MlT (.mk u.val.2.2.2.2.1.1 u.val.2.2.2.2.1.2) ∧ MlT (.mk u.val.2.2.2.2.2.1 u.val.2.2.2.2.2.2) ∧ Ml u.kids) t
abbrev SmA (x : Atm) : Prop := costA x ≤ 1048576
abbrev SmTr {α : Type} (f : α → Nat) (t : Tree α) : Prop := costTr f t ≤ 1048576
abbrev SmTrs {α : Type} (f : α → Nat) (l : List (Tree α)) : Prop := l.length + costTrs f l ≤ 1048576
def A_sTSame (a b : TP) : List Ann :=
  [.mk Nat (fun x => x ≤ a.2.length ∧ a.2.length = b.2.length ∧ a.1 = b.1 ∧ (a.2 = b.2 ↔ a.2.drop x = b.2.drop x)) (fun x => { fr := pad [.any, .any, .ptr 0 0, .ptr 1 0, .any, i64 x] 39, H := [.var [st a.1, terms a.2], .var [st b.1, terms b.2]] }) (fun x => a.2.length - x) (fun _ => [])]
def A_sAtomSame (a b : Atm) : List Ann :=
  [.mk Nat (fun x => x ≤ a.2.2.2.1.length ∧ a.2.2.2.1.length = b.2.2.2.1.length ∧ (a = b ↔ a.2.2.2.2.1 = b.2.2.2.2.1 ∧ a.2.2.2.1.drop x = b.2.2.2.1.drop x) ∧ a.2.2.2.2.1.length = b.2.2.2.2.1.length) (fun x => { fr := pad [.any, .any, .ptr 0 0, .ptr 1 0, .any, i64 x] 97, H := [.var [i64 a.1, st a.2.1.1, terms a.2.1.2, st a.2.2.1.1, terms a.2.2.1.2, terms a.2.2.2.1, ints a.2.2.2.2.1, i64 a.2.2.2.2.2.1, bl a.2.2.2.2.2.2], .var [i64 b.1, st b.2.1.1, terms b.2.1.2, st b.2.2.1.1, terms b.2.2.1.2, terms b.2.2.2.1, ints b.2.2.2.2.1, i64 b.2.2.2.2.2.1, bl b.2.2.2.2.2.2]] }) (fun x => a.2.2.2.1.length - x) (fun _ => []),
   .mk Nat (fun x => x ≤ a.2.2.2.2.1.length ∧ a.2.2.2.2.1.length = b.2.2.2.2.1.length ∧ (a = b ↔ a.2.2.2.2.1.drop x = b.2.2.2.2.1.drop x)) (fun x => { fr := pad [.any, .any, .ptr 0 0, .ptr 1 0, .any, .any, i64 x] 97, H := [.var [i64 a.1, st a.2.1.1, terms a.2.1.2, st a.2.2.1.1, terms a.2.2.1.2, terms a.2.2.2.1, ints a.2.2.2.2.1, i64 a.2.2.2.2.2.1, bl a.2.2.2.2.2.2], .var [i64 b.1, st b.2.1.1, terms b.2.1.2, st b.2.2.1.1, terms b.2.2.1.2, terms b.2.2.2.1, ints b.2.2.2.2.1, i64 b.2.2.2.2.2.1, bl b.2.2.2.2.2.2]] }) (fun x => a.2.2.2.2.1.length - x) (fun _ => [])]
def A_szWhyS (l : List Wy) (k : Int) : List Ann :=
  [.mk Nat (fun x => x ≤ l.length ∧ 0 ≤ k - l.length - costTrs costPW (l.take x)) (fun x => { fr := pad [whys l, i64 (k - l.length - costTrs costPW (l.take x)), .any, .any, .any, i64 x] 27, H := [] }) (fun x => l.length - x) (fun _ => [])]
def A_toWhyS (l : List Wy) : List Ann :=
  [.mk (Nat × List Wy) (fun x => x.1 ≤ l.length ∧ x.2.length = l.length ∧ x.2.take x.1 = l.take x.1) (fun x => { fr := pad [whys l, .any, .any, .osl 0 0 x.2.length, i64 x.1] 23, H := [arW x.2] }) (fun x => l.length - x.1) (fun _ => [])]
def A_eqWhyS (l m : List Wy) : List Ann :=
  [.mk Nat (fun x => x ≤ l.length ∧ l.length = m.length ∧ (l = m ↔ l.drop x = m.drop x)) (fun x => { fr := pad [whys l, whys m, .any, .any, .any, i64 x] 27, H := [] }) (fun x => l.length - x) (fun _ => [])]
def A_sWhySame (a b : WP) : List Ann :=
  [.mk Nat (fun x => x ≤ a.2.length ∧ a.2.length = b.2.length ∧ a.1 = b.1 ∧ (a.2 = b.2 ↔ a.2.drop x = b.2.drop x)) (fun x => { fr := pad [.any, .any, .ptr 0 0, .ptr 1 0, .any, i64 x] 54, H := [.var [i64 a.1.1, i64 a.1.2.1, st a.1.2.2.1, terms a.1.2.2.2, whys a.2], .var [i64 b.1.1, i64 b.1.2.1, st b.1.2.2.1, terms b.1.2.2.2, whys b.2]] }) (fun x => a.2.length - x) (fun _ => [])]
def A_szFormS (l : List Frm) (k : Int) : List Ann :=
  [.mk Nat (fun x => x ≤ l.length ∧ 0 ≤ k - l.length - costTrs costPF (l.take x)) (fun x => { fr := pad [forms l, i64 (k - l.length - costTrs costPF (l.take x)), .any, .any, .any, i64 x] 27, H := [] }) (fun x => l.length - x) (fun _ => [])]
def A_toFormS (l : List Frm) : List Ann :=
  [.mk (Nat × List Frm) (fun x => x.1 ≤ l.length ∧ x.2.length = l.length ∧ x.2.take x.1 = l.take x.1) (fun x => { fr := pad [forms l, .any, .any, .osl 0 0 x.2.length, i64 x.1] 23, H := [arF x.2] }) (fun x => l.length - x.1) (fun _ => [])]
def A_eqFormS (l m : List Frm) : List Ann :=
  [.mk Nat (fun x => x ≤ l.length ∧ l.length = m.length ∧ (l = m ↔ l.drop x = m.drop x)) (fun x => { fr := pad [forms l, forms m, .any, .any, .any, i64 x] 27, H := [] }) (fun x => l.length - x) (fun _ => [])]
def A_sFormSame (a b : FP) : List Ann :=
  [.mk Nat (fun x => x ≤ a.2.length ∧ a.2.length = b.2.length ∧ a.1 = b.1 ∧ (a.2 = b.2 ↔ a.2.drop x = b.2.drop x)) (fun x => { fr := pad [.any, .any, .ptr 0 0, .ptr 1 0, .any, i64 x] 58, H := [.var [i64 a.1.1, i64 a.1.2.1.1, st a.1.2.1.2.1.1, terms a.1.2.1.2.1.2, st a.1.2.1.2.2.1.1, terms a.1.2.1.2.2.1.2, terms a.1.2.1.2.2.2.1, ints a.1.2.1.2.2.2.2.1, i64 a.1.2.1.2.2.2.2.2.1, bl a.1.2.1.2.2.2.2.2.2, bl a.1.2.2, forms a.2], .var [i64 b.1.1, i64 b.1.2.1.1, st b.1.2.1.2.1.1, terms b.1.2.1.2.1.2, st b.1.2.1.2.2.1.1, terms b.1.2.1.2.2.1.2, terms b.1.2.1.2.2.2.1, ints b.1.2.1.2.2.2.2.1, i64 b.1.2.1.2.2.2.2.2.1, bl b.1.2.1.2.2.2.2.2.2, bl b.1.2.2, forms b.2]] }) (fun x => a.2.length - x) (fun _ => [])]
def A_szCaseS (l : List Cse) (k : Int) : List Ann :=
  [.mk Nat (fun x => x ≤ l.length ∧ 0 ≤ k - l.length - costTrs costPC (l.take x)) (fun x => { fr := pad [cases l, i64 (k - l.length - costTrs costPC (l.take x)), .any, .any, .any, i64 x] 27, H := [] }) (fun x => l.length - x) (fun _ => [])]
def A_toCaseS (l : List Cse) : List Ann :=
  [.mk (Nat × List Cse) (fun x => x.1 ≤ l.length ∧ x.2.length = l.length ∧ x.2.take x.1 = l.take x.1) (fun x => { fr := pad [cases l, .any, .any, .osl 0 0 x.2.length, i64 x.1] 23, H := [arC x.2] }) (fun x => l.length - x.1) (fun _ => [])]
def A_eqCaseS (l m : List Cse) : List Ann :=
  [.mk Nat (fun x => x ≤ l.length ∧ l.length = m.length ∧ (l = m ↔ l.drop x = m.drop x)) (fun x => { fr := pad [cases l, cases m, .any, .any, .any, i64 x] 27, H := [] }) (fun x => l.length - x) (fun _ => [])]
def A_sCaseSame (a b : CP) : List Ann :=
  [.mk Nat (fun x => x ≤ a.2.length ∧ a.2.length = b.2.length ∧ a.1 = b.1 ∧ (a.2 = b.2 ↔ a.2.drop x = b.2.drop x)) (fun x => { fr := pad [.any, .any, .ptr 0 0, .ptr 1 0, .any, i64 x] 78, H := [.var [i64 a.1.1, i64 a.1.2.1, i64 a.1.2.2.1.1.1, i64 a.1.2.2.1.1.2.1, st a.1.2.2.1.1.2.2.1, terms a.1.2.2.1.1.2.2.2, whys a.1.2.2.1.2, ints a.1.2.2.2.1, st a.1.2.2.2.2.1.1, terms a.1.2.2.2.2.1.2, st a.1.2.2.2.2.2.1, terms a.1.2.2.2.2.2.2, cases a.2], .var [i64 b.1.1, i64 b.1.2.1, i64 b.1.2.2.1.1.1, i64 b.1.2.2.1.1.2.1, st b.1.2.2.1.1.2.2.1, terms b.1.2.2.1.1.2.2.2, whys b.1.2.2.1.2, ints b.1.2.2.2.1, st b.1.2.2.2.2.1.1, terms b.1.2.2.2.2.1.2, st b.1.2.2.2.2.2.1, terms b.1.2.2.2.2.2.2, cases b.2]] }) (fun x => a.2.length - x) (fun _ => [])]
end Cg

/-
  Models: how they lie in cells; sizes, copies, equality. No condition.
-/
set_option linter.unusedVariables false
set_option linter.unusedSimpArgs false
namespace Pl
abbrev Rt := Int × Int
abbrev Rw := ByteArray × List Rt × Rt
abbrev Mdl := List Rw
noncomputable instance instRw : DecidableEq Rw := fun a b => Classical.propDecidable (a = b)
def dQ : Rt := (0, 0)
def dR : Rw := (ByteArray.empty, [], 0, 0)
def costR (x : Rw) : Nat := x.1.size + x.2.1.length
def costM (m : Mdl) : Nat := m.length + sumN costR m
end Pl
namespace Cg
open Go Pl
def eQ (x : Rt) (j : Nat) : AV := match j with
  | 0 => i64 x.1
  | _ => i64 x.2
theorem EncN.eQ : EncN 2 eQ := fun x y => by
  constructor
  · intro h
    have h0 : Is (i64 x.1) (i64 y.1) := h 0 (by decide)
    have h1 : Is (i64 x.2) (i64 y.2) := h 1 (by decide)
    simp only [Is_i64, Is_u8, Is_bl, Is_st, Is_ints, Is_bools, Is_strs, Is_intss] at h0 h1
    grind
  · rintro rfl j hj
    match j, hj with
    | 0, _ => show Is (i64 x.1) (i64 x.1); simp
    | 1, _ => show Is (i64 x.2) (i64 x.2); simp
def cQ (l : List Rt) : Nat → Nat → AV := fun i j => eQ (l.getD i dQ) j
def rats (l : List Rt) : AV := .sl l.length 2 fun i j => eQ (l.getD i dQ) j
def arQ (l : List Rt) : AObj := .arr l.length 2 fun i j => eQ (l.getD i dQ) j
theorem Enc.rats : Enc rats := Enc.sln (by decide) EncN.eQ dQ
@[simp] theorem Is_rats {x y : List Rt} : Is (rats x) (rats y) ↔ x = y := Enc.rats x y
@[simp] theorem IsO_rats {x y : List Rt} : IsO (arQ x) (arQ y) ↔ y = [] ∨ x = y := IsO_arn EncN.eQ
@[simp] theorem IsO_rats0 {n : Nat} {c : Nat → Nat → AV} : IsO (.arr n 2 c) (arQ []) := IsO_nil
@[simp] theorem rats_nil {q : Nat} {c : Nat → Nat → AV} {m : List Rt} : Is (.lit 0 q c) (rats m) ↔ m = [] := nil_sln
@[simp] theorem rats_nilA {m : List Rt} : Is nilA (rats m) ↔ m = [] := nil_sln
@[simp] theorem rats_join {l m : List Rt} : IsO (.arr (l.length + m.length) 2 (joinC l.length (cQ l) (cQ m))) (arQ (l ++ m)) := IsO_join EncN.eQ (IsR_cel EncN.eQ)
@[simp] theorem rats_join0 {m : List Rt} {c : Nat → Nat → AV} : IsO (.arr (0 + m.length) 2 (joinC 0 c (cQ m))) (arQ m) := IsO_join0 EncN.eQ (IsR_cel EncN.eQ)
@[simp] theorem rats_join0' {m : List Rt} {c : Nat → Nat → AV} : IsO (.arr m.length 2 (joinC 0 c (cQ m))) (arQ m) := IsO_join0 EncN.eQ (IsR_cel EncN.eQ)
def eR (x : Rw) (j : Nat) : AV := match j with
  | 0 => st x.1
  | 1 => rats x.2.1
  | 2 => i64 x.2.2.1
  | _ => i64 x.2.2.2
theorem EncN.eR : EncN 4 eR := fun x y => by
  constructor
  · intro h
    have h0 : Is (st x.1) (st y.1) := h 0 (by decide)
    have h1 : Is (rats x.2.1) (rats y.2.1) := h 1 (by decide)
    have h2 : Is (i64 x.2.2.1) (i64 y.2.2.1) := h 2 (by decide)
    have h3 : Is (i64 x.2.2.2) (i64 y.2.2.2) := h 3 (by decide)
    simp only [Is_i64, Is_u8, Is_bl, Is_st, Is_ints, Is_bools, Is_strs, Is_intss, Is_rats] at h0 h1 h2 h3
    grind
  · rintro rfl j hj
    match j, hj with
    | 0, _ => show Is (st x.1) (st x.1); simp
    | 1, _ => show Is (rats x.2.1) (rats x.2.1); simp
    | 2, _ => show Is (i64 x.2.2.1) (i64 x.2.2.1); simp
    | 3, _ => show Is (i64 x.2.2.2) (i64 x.2.2.2); simp
def cR (l : List Rw) : Nat → Nat → AV := fun i j => eR (l.getD i dR) j
def mrows (l : List Rw) : AV := .sl l.length 4 fun i j => eR (l.getD i dR) j
def arR (l : List Rw) : AObj := .arr l.length 4 fun i j => eR (l.getD i dR) j
theorem Enc.mrows : Enc mrows := Enc.sln (by decide) EncN.eR dR
@[simp] theorem Is_mrows {x y : List Rw} : Is (mrows x) (mrows y) ↔ x = y := Enc.mrows x y
@[simp] theorem IsO_mrows {x y : List Rw} : IsO (arR x) (arR y) ↔ y = [] ∨ x = y := IsO_arn EncN.eR
@[simp] theorem IsO_mrows0 {n : Nat} {c : Nat → Nat → AV} : IsO (.arr n 4 c) (arR []) := IsO_nil
@[simp] theorem mrows_nil {q : Nat} {c : Nat → Nat → AV} {m : List Rw} : Is (.lit 0 q c) (mrows m) ↔ m = [] := nil_sln
@[simp] theorem mrows_nilA {m : List Rw} : Is nilA (mrows m) ↔ m = [] := nil_sln
@[simp] theorem mrows_join {l m : List Rw} : IsO (.arr (l.length + m.length) 4 (joinC l.length (cR l) (cR m))) (arR (l ++ m)) := IsO_join EncN.eR (IsR_cel EncN.eR)
@[simp] theorem mrows_join0 {m : List Rw} {c : Nat → Nat → AV} : IsO (.arr (0 + m.length) 4 (joinC 0 c (cR m))) (arR m) := IsO_join0 EncN.eR (IsR_cel EncN.eR)
@[simp] theorem mrows_join0' {m : List Rw} {c : Nat → Nat → AV} : IsO (.arr m.length 4 (joinC 0 c (cR m))) (arR m) := IsO_join0 EncN.eR (IsR_cel EncN.eR)
theorem Is_rowQ {a b : Int} : ∀ j, j < 2 → Is ([i64 a, i64 b].getD j .any) (eQ (a, b) j) := fun j hj => by
  match j, hj with
  | 0, _ => exact (Enc.i64 a a).2 rfl
  | 1, _ => exact (Enc.i64 b b).2 rfl
@[simp] theorem rats_set {l : List Rt} {i : Nat} {a b : Int} : IsO (.arr l.length 2 (storeC (cQ l) i 0 [i64 a, i64 b])) (arQ (l.set i (a, b))) := IsO_set EncN.eQ rfl Is_rowQ
@[simp] theorem rats_make {n : Nat} : IsO (.arr n 2 (fun _ j => [i64 0, i64 0].getD j .any)) (arQ (List.replicate n dQ)) := IsO_make EncN.eQ Is_rowQ
theorem rats_row (a b : Int) : IsR 2 eQ dQ (rowsCell [[i64 a, i64 b]]) [(a, b)] := IsR_row EncN.eQ Is_rowQ
@[simp] theorem rats_push {l : List Rt} {a b : Int} : IsO (.arr (l.length + 1) 2 (joinC l.length (cQ l) (rowsCell [[i64 a, i64 b]]))) (arQ (l ++ [(a, b)])) := IsO_join EncN.eQ (rats_row a b)
@[simp] theorem rats_push0 {a b : Int} {c : Nat → Nat → AV} : IsO (.arr (0 + 1) 2 (joinC 0 c (rowsCell [[i64 a, i64 b]]))) (arQ [(a, b)]) := IsO_join0 EncN.eQ (rats_row a b)
@[simp] theorem rats_push1 {a b : Int} {c : Nat → Nat → AV} : IsO (.arr 1 2 (joinC 0 c (rowsCell [[i64 a, i64 b]]))) (arQ [(a, b)]) := IsO_join0 EncN.eQ (rats_row a b)
theorem Is_rowR {a : ByteArray} {l : List Rt} {c d : Int} {b : AV} (hb : Is b (rats l)) : ∀ j, j < 4 → Is ([st a, b, i64 c, i64 d].getD j .any) (eR (a, l, c, d) j) := fun j hj => by
  match j, hj with
  | 0, _ => exact (Enc.st a a).2 rfl
  | 1, _ => exact hb
  | 2, _ => exact (Enc.i64 c c).2 rfl
  | 3, _ => exact (Enc.i64 d d).2 rfl
@[simp] theorem mrows_set {l : List Rw} {i : Nat} {a : ByteArray} {b : List Rt} {c d : Int} : IsO (.arr l.length 4 (storeC (cR l) i 0 [st a, rats b, i64 c, i64 d])) (arR (l.set i (a, b, c, d))) := IsO_set EncN.eR rfl (Is_rowR ((Enc.rats b b).2 rfl))
@[simp] theorem mrows_make {n : Nat} : IsO (.arr n 4 (fun _ j => [st ByteArray.empty, nilA, i64 0, i64 0].getD j .any)) (arR (List.replicate n dR)) := IsO_make EncN.eR (Is_rowR (rats_nilA.2 rfl))
def ratA (x : Rt) : AV := .agg [i64 x.1, i64 x.2]
def rowA (x : Rw) : AV := .agg [st x.1, rats x.2.1, i64 x.2.2.1, i64 x.2.2.2]
def modelA (m : Mdl) : AV := .agg [mrows m]
abbrev MlR (x : Rw) : Prop := x.1.size ≤ 9223372036854775807 ∧ x.2.1.length ≤ 9223372036854775807
abbrev MlM (m : Mdl) : Prop := m.length ≤ 9223372036854775807 ∧ ∀ x ∈ m, MlR x
abbrev SmM (m : Mdl) : Prop := costM m ≤ 1048576
def A_szRowS (l : Mdl) (k : Int) : List Ann :=
  [.mk Nat (fun x => x ≤ l.length ∧ 0 ≤ k - l.length - sumN costR (l.take x)) (fun x => { fr := pad [mrows l, i64 (k - l.length - sumN costR (l.take x)), .any, .any, .any, i64 x] 27, H := [] }) (fun x => l.length - x) (fun _ => [])]
def A_toRatS (l : List Rt) : List Ann :=
  [.mk (Nat × List Rt) (fun x => x.1 ≤ l.length ∧ x.2.length = l.length ∧ x.2.take x.1 = l.take x.1) (fun x => { fr := pad [rats l, .any, .any, .osl 0 0 x.2.length, i64 x.1] 23, H := [arQ x.2] }) (fun x => l.length - x.1) (fun _ => [])]
def A_toRowS (l : Mdl) : List Ann :=
  [.mk (Nat × Mdl) (fun x => x.1 ≤ l.length ∧ x.2.length = l.length ∧ x.2.take x.1 = l.take x.1) (fun x => { fr := pad [mrows l, .any, .any, .osl 0 0 x.2.length, i64 x.1] 23, H := [arR x.2] }) (fun x => l.length - x.1) (fun _ => [])]
def A_eqRatS (l m : List Rt) : List Ann :=
  [.mk Nat (fun x => x ≤ l.length ∧ l.length = m.length ∧ (l = m ↔ l.drop x = m.drop x)) (fun x => { fr := pad [rats l, rats m, .any, .any, .any, i64 x] 27, H := [] }) (fun x => l.length - x) (fun _ => [])]
def A_eqRowS (l m : Mdl) : List Ann :=
  [.mk Nat (fun x => x ≤ l.length ∧ l.length = m.length ∧ (l = m ↔ l.drop x = m.drop x)) (fun x => { fr := pad [mrows l, mrows m, .any, .any, .any, i64 x] 27, H := [] }) (fun x => l.length - x) (fun _ => [])]
def A_l7Rats (l m : List Rt) : List Ann :=
  [.mk Nat (fun x => x ≤ l.length ∧ l.length = m.length ∧ (l = m ↔ l.drop x = m.drop x)) (fun x => { fr := pad [rats l, rats m, .any, .any, .any, i64 x] 26, H := [] }) (fun x => l.length - x) (fun _ => [])]
def A_EqualRats (l m : List Rt) : List Ann :=
  [.mk Nat (fun x => x ≤ l.length ∧ l.length = m.length ∧ (l = m ↔ l.drop x = m.drop x)) (fun x => { fr := pad [rats l, rats m, .any, .any, .any, .any, .any, .any, .any, .any, .any, rats l, i64 l.length, i64 x] 26, H := [] }) (fun x => l.length - x) (fun _ => [])]
def A_sModelSame (l m : Mdl) : List Ann :=
  [.mk Nat (fun x => x ≤ l.length ∧ l.length = m.length ∧ (l = m ↔ l.drop x = m.drop x)) (fun x => { fr := pad [.any, .any, .ptr 0 0, .ptr 1 0, .any, i64 x] 64, H := [.var [mrows l], .var [mrows m]] }) (fun x => l.length - x) (fun _ => [])]
end Cg

/-
  Plain functions, and what is known of the codes' callees and loops: valid models. No condition.
-/
namespace Pl
open Go
def abs1 (n : Int) : Int := if n < -1000000000 ∨ n > 1000000000 then 1000000001 else if n < 0 then -n else n
def ratOk (x : Rt) : Bool := decide (-1000000000 ≤ x.1) && decide (x.1 ≤ 1000000000) && (decide (1 ≤ x.2) && decide (x.2 ≤ 1000000000)) && decide (Nat.gcd x.1.natAbs x.2.natAbs = 1)
def ratLess (a b : Rt) : Bool := ratOk a && ratOk b && decide (a.1 * b.2 < b.1 * a.2)
def cmpRat (a b : Rt) : Int := if ratLess a b = true then -1 else if ratLess b a = true then 1 else 0
def rowOk (x : Rw) : Bool := nameOk x.1 && decide (x.2.1.length ≤ 2) && ratOk x.2.2 && x.2.1.all ratOk
def argsLess : List Rt → List Rt → Bool
  | x :: xs, y :: ys => if x = y then argsLess xs ys else ratLess x y
  | _, _ => false
def rowLess (a b : Rw) : Bool := if a.1 = b.1 then (if a.2.1.length = b.2.1.length then argsLess a.2.1 b.2.1 else decide (a.2.1.length < b.2.1.length)) else sLess a.1 b.1
def cmpArgs : List Rt → List Rt → Int
  | [], [] => 0
  | [], _ :: _ => -1
  | _ :: _, [] => 1
  | x :: xs, y :: ys => if cmpRat x y = 0 then cmpArgs xs ys else cmpRat x y
def cmpS (a b : ByteArray) : Int := if sLess a b = true then -1 else if sLess b a = true then 1 else 0
def cmpI (a b : Int) : Int := if a < b then -1 else if a > b then 1 else 0
def orI : List Int → Int
  | [] => 0
  | x :: xs => if x = 0 then orI xs else x
def cmpRows (a b : Rw) : Int := orI [cmpS a.1 b.1, cmpI a.2.1.length b.2.1.length, cmpArgs a.2.1 b.2.1]
def beforeR (p : Option Rw) (x : Rw) : Bool := match p with
  | none => true
  | some q => rowLess q x
def mL : Option Rw → List Rw → Bool
  | _, [] => true
  | p, x :: xs => rowOk x && beforeR p x && mL (some x) xs
def prevR (m : Mdl) (k : Nat) : Option Rw := if k = 0 then none else some (m.getD (k - 1) dR)
def mRight (m : Mdl) : Bool := mL none m && decide (m.length ≤ 40)
def suit (a : Rt) (n : Int) : Bool := decide (n = 1) || decide (a.2 = 1)
def fit (a : Rt) (n : Int) : Bool := ratOk a && suit a n
def fitL : List Rt → List Int → Bool
  | a :: qs, n :: ns => fit a n && fitL qs ns
  | _, _ => true
def rowFits (s : Sig) (r : Rw) : Bool := (find s r.1).isSome && decide ((symOf s r.1).2.1.length = r.2.1.length) && fit r.2.2 (symOf s r.1).2.2 && fitL r.2.1 (symOf s r.1).2.1
def modelOk (s : Sig) (m : Mdl) : Bool := sigOk s && mRight m && m.all (rowFits s)
end Pl
namespace Cg
open Go Pl
def A_l1Gcd (a b : Nat) : List Ann :=
  [.mk (Nat × Nat) (fun x => x.1 ≤ 4611686018427387904 ∧ x.2 ≤ 4611686018427387904 ∧ Nat.gcd x.1 x.2 = Nat.gcd a b) (fun x => { fr := pad [i64 x.1, i64 x.2] 12, H := [] }) (fun x => x.2) (fun _ => [])]
def A_gcd (a b : Int) : List Ann :=
  [.mk (Nat × Nat) (fun x => x.1 ≤ 4611686018427387904 ∧ x.2 ≤ 4611686018427387904 ∧ Nat.gcd x.1 x.2 = Nat.gcd a.natAbs b.natAbs) (fun x => { fr := pad [i64 x.1, i64 x.2] 20, H := [] }) (fun x => x.2) (fun _ => [])]
def A_l7Row (r : Rw) : List Ann :=
  [.mk Nat (fun x => x ≤ r.2.1.length ∧ r.2.1.all ratOk = (r.2.1.drop x).all ratOk) (fun x => { fr := pad [.any, .ptr 0 0, .any, i64 x] 32, H := [.var [st r.1, rats r.2.1, i64 r.2.2.1, i64 r.2.2.2]] }) (fun x => r.2.1.length - x) (fun _ => [])]
def A_l7Less (a b : Rw) : List Ann :=
  [.mk Nat (fun x => x ≤ a.2.1.length ∧ a.2.1.length = b.2.1.length ∧ rowLess a b = argsLess (a.2.1.drop x) (b.2.1.drop x)) (fun x => { fr := pad [.any, .any, .ptr 0 0, .ptr 1 0, .any, i64 x] 59, H := [.var [st a.1, rats a.2.1, i64 a.2.2.1, i64 a.2.2.2], .var [st b.1, rats b.2.1, i64 b.2.2.1, i64 b.2.2.2]] }) (fun x => a.2.1.length - x) (fun _ => [])]
def A_l7Right (m : Mdl) : List Ann :=
  [.mk Nat (fun x => x ≤ m.length ∧ mL none m = mL (prevR m x) (m.drop x)) (fun x => { fr := pad [.any, .ptr 0 0, .any, i64 x] 41, H := [.var [mrows m]] }) (fun x => m.length - x) (fun _ => [])]
def A_sModelOk (s : Sig) (m : Mdl) : List Ann :=
  [.mk Nat (fun x => x ≤ m.length ∧ modelOk s m = (m.drop x).all (rowFits s)) (fun x => { fr := pad [.any, .any, .ptr 0 0, .ptr 1 0, .any, i64 x] 85, H := [.var [syms s], .var [mrows m]] }) (fun x => m.length - x)
    (fun x => [.mk Nat (fun j => x < m.length ∧ j ≤ (m.getD x dR).2.1.length ∧ (symOf s (m.getD x dR).1).2.1.length = (m.getD x dR).2.1.length ∧ rowFits s (m.getD x dR) = fitL ((m.getD x dR).2.1.drop j) ((symOf s (m.getD x dR).1).2.1.drop j))
      (fun j => { fr := pad [.any, .any, .ptr 0 0, .ptr 1 0, .any, i64 x, .ptr 2 0, .any, i64 j] 85, H := [.var [syms s], .var [mrows m], .var [st (symOf s (m.getD x dR).1).1, ints (symOf s (m.getD x dR).1).2.1, i64 (symOf s (m.getD x dR).1).2.2]] }) (fun j => (m.getD x dR).2.1.length - j) (fun _ => [])])]
def A_Or (l : List Int) : List Ann :=
  [.mk Nat (fun x => x ≤ l.length ∧ orI l = orI (l.drop x)) (fun x => { fr := pad [.any, .any, .any, i64 0, .any, .any, ints l, i64 l.length, i64 x] 18, H := [] }) (fun x => l.length - x) (fun _ => [])]
def A_iModel (m : Mdl) : List Ann :=
  [.mk Nat (fun x => x ≤ m.length ∧ mL none m = mL (prevR m x) (m.drop x) ∧ (x ≠ 0 → rowOk (m.getD (x - 1) dR) = true)) (fun x => { fr := pad [.any, .ptr 0 0, .any, .any, .any, .any, .any, .any, .any, .any, mrows m, i64 m.length, i64 x] 36, H := [.var [mrows m]] }) (fun x => m.length - x) (fun _ => [])]
def A_iModelOk (s : Sig) (m : Mdl) : List Ann :=
  [.mk Nat (fun x => x ≤ m.length ∧ modelOk s m = (m.drop x).all (rowFits s) ∧ mL none m = true) (fun x => { fr := pad [.any, .any, .ptr 0 0, .ptr 1 0, .any, .any, .any, .any, .any, .any, .any, .any, .any, .any, .any, .any, .any, .any, .any, .any, mrows m, i64 m.length, i64 x] 70, H := [.var [syms s], .var [mrows m]] }) (fun x => m.length - x)
    (fun x => [.mk Nat (fun j => x < m.length ∧ j ≤ (m.getD x dR).2.1.length ∧ (symOf s (m.getD x dR).1).2.1.length = (m.getD x dR).2.1.length ∧ rowFits s (m.getD x dR) = fitL ((m.getD x dR).2.1.drop j) ((symOf s (m.getD x dR).1).2.1.drop j))
      (fun j => { fr := pad ([.any, .any, .ptr 0 0, .ptr 1 0, .any, .any, .any, .ptr 2 0, .any, .any, .any, .any, .any, .any, .any, .any, .any, .any, .any, .any, mrows m, i64 m.length, i64 x] ++ List.replicate 30 .any ++ [rats (m.getD x dR).2.1, i64 (m.getD x dR).2.1.length, i64 j]) 70, H := [.var [syms s], .var [mrows m], .var [st (symOf s (m.getD x dR).1).1, ints (symOf s (m.getD x dR).1).2.1, i64 (symOf s (m.getD x dR).1).2.2]] }) (fun j => (m.getD x dR).2.1.length - j) (fun _ => [])])]
end Cg

/-
  Plain functions, and what is known of the codes' callees and loops: unit propagation. No condition.
-/
namespace Pl
/-- 1, if a mark is put as it is wanted, -1, if the other way, else 0. -/
def at_ (n : Int) : List Int → Int
  | [] => 0
  | p :: r => if p = n then 1 else if p = wneg n then -1 else at_ n r
def leftL (put : List Int) : List Int → Nat → Int → Nat × Int
  | [], n, l => (n, l)
  | x :: xs, n, l => if at_ x put = 1 then (2, 0) else if at_ x put = 0 then leftL put xs (n + 1) (if n = 0 then x else l) else leftL put xs n l
def left (put c : List Int) : Nat × Int := leftL put c 0 0
/-- The first clause that is falsified, or that makes a mark true. -/
def scanS (put : List Int) : List (List Int) → Option (Option Int)
  | [] => none
  | c :: cs => if (left put c).1 = 0 then some none else if (left put c).1 = 1 then some (some (left put c).2) else scanS put cs
def unitsF (scan : List Int → List (List Int) → Option (Option Int)) (list : List (List Int)) : Nat → List Int → List Int × Bool
  | 0, put => (put, false)
  | k + 1, put => match scan put list with
    | none => (put, false)
    | some none => (put, true)
    | some (some l) => unitsF scan list k (put ++ [l])
def unitsS (list : List (List Int)) (put : List Int) : List Int × Bool := unitsF scanS list 61 put
def unitL (put : List Int) : List Int → Int → Nat → Int × Bool
  | [], f, k => (if k > 1 then 0 else f, decide (k = 0))
  | x :: xs, f, k => if put.contains x then (0, false) else if put.contains (wneg x) then unitL put xs f k else unitL put xs x (k + 1)
def unit (c put : List Int) : Int × Bool := unitL put c 0 0
def scanI (put : List Int) : List (List Int) → Option (Option Int)
  | [] => none
  | c :: cs => if (unit c put).2 then some none else if (unit c put).1 ≠ 0 then some (some (unit c put).1) else scanI put cs
def unitsI (list : List (List Int)) (put : List Int) : List Int × Bool := unitsF scanI list 61 put
def nots (l : List Int) : List Int := l.map wneg
/-- How many variables are not put yet. -/
def uncov (put : List Int) : Nat := ((List.range 60).filter fun (v : Nat) => !(put.contains ((v : Int) + 1) || put.contains (-((v : Int) + 1)))).length
/-- Nothing is put both ways. -/
def Cons (put : List Int) : Prop := ∀ x ∈ put, x ≠ 0 ∧ -60 ≤ x ∧ x ≤ 60 ∧ -x ∉ put
def sumLen {α : Type} : List (List α) → Int
  | [] => 0
  | x :: xs => x.length + sumLen xs
def rup (c : Cnf) (cl : List Int) : Bool := cnfOk c && specClause cl c.1 && (unitsS c.2 (nots cl)).2
def logAll (c : Cnf) (log : List (List Int)) (i : Nat) : Bool := (List.range' i (log.length - i)).all fun j => rup (c.1, c.2 ++ log.take j) (log.getD j [])
def logOk (c : Cnf) (log : List (List Int)) : Bool := cnfOk c && decide (log.length ≤ 130) && decide (c.2.length + log.length ≤ 400) && logAll c log 0
end Pl
namespace Cg
open Go
abbrev SzH {α : Type} (l : List α) : Prop := l.length ≤ 2147483648
def A_l10At (l : List Int) (n : Int) : List Ann :=
  [.mk Nat (fun x => x ≤ l.length ∧ Pl.at_ n l = Pl.at_ n (l.drop x)) (fun x => { fr := pad [ints l, i64 n, .any, .any, .any, i64 x] 25, H := [] }) (fun x => l.length - x) (fun _ => [])]
def A_l10Left (put c : List Int) : List Ann :=
  [.mk (Nat × Nat × Int) (fun x => x.1 ≤ c.length ∧ x.2.1 ≤ x.1 ∧ Pl.left put c = Pl.leftL put (c.drop x.1) x.2.1 x.2.2) (fun x => { fr := pad [ints put, ints c, .any, .any, .any, .any, i64 x.2.1, i64 x.2.2, i64 x.1] 35, H := [] }) (fun x => c.length - x.1) (fun _ => [])]
def A_l10Units (c : Pl.Cnf) (put : List Int) : List Ann :=
  [.mk (Nat × Nat × List Int) (fun x => x.1 ≤ c.2.length ∧ Pl.unitsS c.2 put = Pl.unitsF Pl.scanS c.2 x.2.1 x.2.2 ∧ Pl.uncov x.2.2 < x.2.1 ∧ Pl.scanS x.2.2 c.2 = Pl.scanS x.2.2 (c.2.drop x.1) ∧ x.2.2.length + x.2.1 = put.length + 61)
    (fun x => { fr := pad [.any, ints put, .ptr 0 0, .any, .any, .any, .osl 1 0 x.2.2.length, i64 x.1] 40, H := [.var [i64 c.1, intss c.2], arI x.2.2] }) (fun x => x.2.1 * (c.2.length + 1) + (c.2.length - x.1)) (fun _ => [])]
def A_l10Nots (l : List Int) : List Ann :=
  [.mk (Nat × List Int) (fun x => x.1 ≤ l.length ∧ x.2.length = x.1 ∧ Pl.nots l = x.2 ++ Pl.nots (l.drop x.1)) (fun x => { fr := pad [ints l, .any, .any, .osl 0 0 x.2.length, i64 x.1] 21, H := [arI x.2] }) (fun x => l.length - x.1) (fun _ => [])]
def A_Index (l : List Int) (n : Int) : List Ann :=
  [.mk Nat (fun x => x ≤ l.length ∧ Pl.idx (fun y => decide (n = y)) l = if Pl.idx (fun y => decide (n = y)) (l.drop x) < 0 then -1 else Pl.idx (fun y => decide (n = y)) (l.drop x) + x)
    (fun x => { fr := pad [ints l, i64 n, .any, .any, .any, .any, .any, i64 l.length, i64 x] 19, H := [] }) (fun x => l.length - x) (fun _ => [])]
def A_unit (c put : List Int) : List Ann :=
  [.mk (Nat × Int × Nat) (fun x => x.1 ≤ c.length ∧ x.2.2 ≤ x.1 ∧ Pl.unit c put = Pl.unitL put (c.drop x.1) x.2.1 x.2.2) (fun x => { fr := pad [ints c, ints put, .any, .any, .any, .any, i64 x.2.1, i64 x.2.2, .any, .any, ints c, i64 c.length, i64 x.1] 35, H := [] }) (fun x => c.length - x.1) (fun _ => [])]
def A_units (list : List (List Int)) (put : List Int) : List Ann :=
  [.mk (Nat × List Int) (fun x => Pl.unitsI list put = Pl.unitsF Pl.scanI list x.1 x.2 ∧ Pl.uncov x.2 < x.1 ∧ x.2.length + x.1 = put.length + 61)
    (fun x => { fr := pad [intss list, ints put, .any, .any, .any, .any, .osl 0 0 x.2.length] 39, H := [arI x.2] }) (fun x => x.1)
    (fun x => [.mk Nat (fun i => i ≤ list.length ∧ Pl.scanI x.2 list = Pl.scanI x.2 (list.drop i))
      (fun i => { fr := pad [intss list, ints put, .any, .any, .any, .any, .osl 0 0 x.2.length, i64 0, .any, .any, .any, .any, .any, .any, intss list, i64 list.length, i64 i] 39, H := [arI x.2] }) (fun i => list.length - i) (fun _ => [])])]
def A_negated (l : List Int) : List Ann :=
  [.mk (Nat × List Int) (fun x => x.1 ≤ l.length ∧ x.2.length = x.1 ∧ Pl.nots l = x.2 ++ Pl.nots (l.drop x.1)) (fun x => { fr := pad [ints l, .any, .any, .osl 0 0 x.2.length, .any, .any, ints l, i64 l.length, i64 x.1] 19, H := [arI x.2] }) (fun x => l.length - x.1) (fun _ => [])]
def A_ConcatII (ls : List (List (List Int))) : List Ann :=
  [.mk Nat (fun x => x ≤ ls.length) (fun x => { fr := pad [intsss ls, .any, .any, i64 (Pl.sumLen (ls.take x)), .any, .any, .any, .any, .any, intsss ls, i64 ls.length, i64 x] 36, H := [] }) (fun x => ls.length - x) (fun _ => []),
   .mk (Nat × List (List Int)) (fun x => x.1 ≤ ls.length ∧ Eqq x.2 (ls.take x.1).flatten) (fun x => { fr := pad [intsss ls, .any, .any, .any, .any, .any, .osl 0 0 x.2.length, .any, .any, .any, .any, .any, .any, .any, .any, .any, .any, .any, .any, .any, .any, .any, .any, .any, .any, intsss ls, i64 ls.length, i64 x.1] 36, H := [arII x.2] }) (fun x => ls.length - x.1) (fun _ => [])]
def A_sLogOk (c : Pl.Cnf) (log : List (List Int)) : List Ann :=
  [.mk (Nat × List (List Int)) (fun x => x.1 ≤ log.length ∧ Eqq x.2 (c.2 ++ log.take x.1) ∧ Pl.logOk c log = Pl.logAll c log x.1) (fun x => { fr := pad [.any, intss log, .any, .any, .any, .ptr 0 0, i64 x.1] 53, H := [.var [i64 c.1, .osl 1 0 x.2.length], arII x.2] }) (fun x => log.length - x.1) (fun _ => [])]
def A_iLogOk (c : Pl.Cnf) (log : List (List Int)) : List Ann :=
  [.mk Nat (fun x => x ≤ log.length ∧ Pl.logOk c log = Pl.logAll c log x) (fun x => { fr := pad [.any, intss log, .ptr 0 0, .any, .any, .ptr 1 0, .any, .any, .any, .any, .any, .any, .any, .any, .any, .any, .any, .any, .any, .any, .any, .any, .any, .any, .any, .any, .any, .any, .any, .any, .any, .any, .any, intss log, i64 log.length, i64 x] 55, H := [.var [i64 c.1, intss c.2], .var [i64 c.1, intss (c.2 ++ log)]] }) (fun x => log.length - x) (fun _ => [])]
end Cg

/-
  Plain functions, and what is known of the codes' callees and loops: drawn clause sets. No condition.
-/
namespace Pl
/-- One more mark in order; false, if it is there the other way. -/
def putS : List Int → Int → List Int × Bool
  | [], n => ([n], true)
  | x :: xs, n => if absW x < absW n then (x :: (putS xs n).1, (putS xs n).2) else if absW x = absW n then (x :: xs, decide (x = n)) else (n :: x :: xs, true)
def badMark (x : Int) : Bool := decide (x = 0) || decide (absW x > 60)
def clauseL : List Int → List Int → List Int × Bool
  | [], out => (out, true)
  | x :: xs, out => if (putS out x).2 then clauseL xs (putS out x).1 else ([], false)
def clauseOf (l : List Int) : List Int × Bool := if l.any badMark then ([], false) else clauseL l []
def rightS (many : Int) : List Int → List Int → Bool
  | _, [] => true
  | done, x :: xs => !(decide (x = 0) || decide (absW x > many) || decide (at_ x done ≠ 0)) && rightS many (done ++ [x]) xs
def rightI (many : Int) : List Int → List Int → Bool
  | _, [] => true
  | done, x :: xs => !(!isMark x many || done.contains x || done.contains (wneg x)) && rightI many (done ++ [x]) xs
def cnfUnits (c : Cnf) (put : List Int) : List Int × Bool := if cnfOk c && rightS c.1 [] put then unitsS c.2 put else ([], false)
end Pl
namespace Cg
open Go
/-- A reader over some bytes, at a place up to a bound. -/
def Rd (m : Int) (b : List Int) (p : Int) : Prop := b.length ≤ 2000 ∧ (∀ x ∈ b, 0 ≤ x ∧ x < 256) ∧ 0 ≤ p ∧ p ≤ m
def Byt (b : List Int) : Prop := ∀ x ∈ b, 0 ≤ x ∧ x < 256
/-- A small clause set. -/
def Sm (c : Pl.Cnf) : Prop := c.1 ≤ 61 ∧ c.2.length ≤ 100 ∧ ∀ x ∈ c.2, x.length ≤ 100
def rdO (b : List Int) (p : Int) : AObj := .var [byts b, i64 p]

def K_l16Open : Nat × Contract := (Nm.spec_l16Open, .eff (List Int) (fun b => ⟨[byts b], []⟩) (fun b => Sz b ∧ Byt b) (List Int) (fun _ y => Rd 0 y 0) fun _ y => (.ptr 0 0, [.var [byts y, i64 0]]))
def K_pick : Nat × Contract := (Nm.spec_l16Rd_pick, .eff (List Int × Int × Int) (fun x => ⟨[.ptr 0 0, i64 x.2.2], [.var [byts x.1, i64 x.2.1]]⟩) (fun x => Rd 1099511627776 x.1 x.2.1) Int (fun x y => (1 ≤ x.2.2 → 0 ≤ y ∧ y < x.2.2) ∧ (x.2.2 < 1 → y = 0)) fun x y => (i64 y, [.var [byts x.1, i64 (x.2.1 + 1)]]))
def K_num : Nat × Contract := (Nm.spec_l16Rd_num, .eff (List Int × Int × List Int) (fun x => ⟨[.ptr 0 0, ints x.2.2], [.var [byts x.1, i64 x.2.1]]⟩) (fun x => Rd 1099511627776 x.1 x.2.1 ∧ x.2.2 ≠ [] ∧ Sz x.2.2) Int (fun x y => y ∈ x.2.2) fun x y => (i64 y, [.var [byts x.1, i64 (x.2.1 + 1)]]))
def A_l10Marks (b : List Int) (p many n : Int) : List Ann :=
  [.mk (Nat × List Int × Int) (fun x => x.2.1.length = x.1 ∧ ((x.1 : Int) ≤ n ∨ x.1 = 0) ∧ p ≤ x.2.2 ∧ x.2.2 ≤ p + 3 * x.1) (fun x => { fr := pad [.ptr 0 0, i64 many, i64 n, .any, .any, .any, .any, .osl 1 0 x.2.1.length, i64 x.1] 22, H := [.var [byts b, i64 x.2.2], arI x.2.1] }) (fun x => (n - x.1).toNat) (fun _ => [])]
def A_l10Vals (b : List Int) (p many : Int) : List Ann :=
  [.mk (Nat × List Bool × Int) (fun x => x.2.1.length = x.1 ∧ ((x.1 : Int) ≤ many ∨ x.1 = 0) ∧ p ≤ x.2.2 ∧ x.2.2 ≤ p + x.1) (fun x => { fr := pad [.ptr 0 0, i64 many, .any, .any, .any, .osl 1 0 x.2.1.length, i64 x.1] 26, H := [.var [byts b, i64 x.2.2], arB x.2.1] }) (fun x => (many - x.1).toNat) (fun _ => [])]
def A_l10Put (l : List Int) (n : Int) : List Ann :=
  [.mk Nat (fun x => x ≤ l.length ∧ Pl.putS l n = (l.take x ++ (Pl.putS (l.drop x) n).1, (Pl.putS (l.drop x) n).2)) (fun x => { fr := pad [ints l, i64 n, .any, .any, .any, .any, i64 x] 60, H := [] }) (fun x => l.length - x) (fun _ => [])]
def A_sClauseOf (l : List Int) : List Ann :=
  [.mk Nat (fun x => x ≤ l.length ∧ l.any Pl.badMark = (l.drop x).any Pl.badMark) (fun x => { fr := pad [ints l, .any, .any, .any, nilA, i64 x] 50, H := [] }) (fun x => l.length - x) (fun _ => []),
   .mk (Nat × List Int) (fun x => x.1 ≤ l.length ∧ Pl.clauseOf l = Pl.clauseL (l.drop x.1) x.2 ∧ x.2.length ≤ x.1) (fun x => { fr := pad [ints l, .any, .any, .any, ints x.2, .any, i64 x.1] 50, H := [] }) (fun x => l.length - x.1) (fun _ => [])]
def A_l10Cnf (b : List Int) (p : Int) : List Ann :=
  [.mk (Int × Int × List (List Int) × Int) (fun x => 0 ≤ x.1 ∧ x.2.2.1.length + x.1 ≤ 12 ∧ x.2.1 ≤ 6 ∧ (∀ y ∈ x.2.2.1, y.length ≤ 100) ∧ p ≤ x.2.2.2 ∧ x.2.2.2 ≤ p + 2 + 400 * (12 - x.1))
    (fun x => { fr := pad [.ptr 0 0, .any, .ptr 1 0, .ptr 2 0, i64 x.1] 61, H := [.var [byts b, i64 x.2.2.2], .var [i64 0, nilA], .var [i64 x.2.1, .osl 3 0 x.2.2.1.length], arII x.2.2.1] }) (fun x => x.1.toNat) (fun _ => [])]
def A_wpNums (l m : List Int) : List Ann :=
  [.mk Nat (fun x => x ≤ l.length ∧ l.length = m.length ∧ (l = m ↔ l.drop x = m.drop x)) (fun x => { fr := pad [ints l, ints m, .any, .any, .any, i64 x] 26, H := [] }) (fun x => l.length - x) (fun _ => [])]
def A_l10Right (l : List Int) (many : Int) : List Ann :=
  [.mk Nat (fun x => x ≤ l.length ∧ Pl.rightS many [] l = Pl.rightS many (l.take x) (l.drop x)) (fun x => { fr := pad [ints l, i64 many, .any, .any, .any, i64 x] 37, H := [] }) (fun x => l.length - x) (fun _ => [])]
def A_iCnfUnits (c : Pl.Cnf) (put : List Int) : List Ann :=
  [.mk Nat (fun x => x ≤ put.length ∧ Pl.rightI c.1 [] put = Pl.rightI c.1 (put.take x) (put.drop x)) (fun x => { fr := pad [.any, ints put, .ptr 0 0, .any, .any, .any, .any, .any, .any, .any, .any, ints put, i64 put.length, i64 x] 45, H := [.var [i64 c.1, intss c.2]] }) (fun x => put.length - x) (fun _ => [])]
def A_yCnfIs (code : List Int) : List Ann :=
  [.mk (Pl.Cnf × List Bool × Nat × Bool × Bool) (fun x => Sm x.1 ∧ x.2.1.length ≤ 101 ∧ x.2.2.1 ≤ x.1.2.length ∧ x.2.2.2.2 = Pl.cnfIs x.1 x.2.1 ∧ (Pl.cnfIs x.1 x.2.1 = (x.2.2.2.1 && (x.1.2.drop x.2.2.1).all fun y => Pl.clauseIs y x.2.1)))
    (fun x => { fr := pad [.any, byts code, .any, .any, .any, .ptr 0 0, bools x.2.1, bl x.2.2.2.2, bl x.2.2.2.1, i64 x.2.2.1] 90, H := [.var [i64 x.1.1, intss x.1.2]] }) (fun x => x.1.2.length - x.2.2.1) (fun _ => [])]
def A_yCnfRup : List Ann :=
  [.mk (Pl.Cnf × List Int × Pl.Cnf × List Bool × Nat) (fun x => Sm x.1 ∧ x.2.1.length ≤ 101 ∧ Sm x.2.2.1 ∧ x.2.2.2.1.length ≤ 101 ∧ x.2.2.2.2 ≤ x.1.2.length)
    (fun x => { fr := pad [.any, .any, .any, .ptr 0 0, ints x.2.1, .ptr 1 0, bools x.2.2.2.1, bl (Pl.rup x.1 x.2.1), i64 x.2.2.2.2] 73, H := [.var [i64 x.1.1, intss x.1.2], .var [i64 x.2.2.1.1, intss x.2.2.1.2]] }) (fun x => x.1.2.length - x.2.2.2.2) (fun _ => [])]
end Cg

/-
  Plain functions, and what is known of the codes' callees and loops: drawn models. No condition.
-/
set_option linter.unusedVariables false
set_option linter.unusedSimpArgs false
namespace Pl
/-- A row, and its values' slice itself. -/
abbrev HRw := Go.Value × Rw
def dH : HRw := (Go.undef, dR)
end Pl
namespace Cg
open Go Pl
def hdQ (h : Value) (l : List Rt) : AV := .hdr h l.length 2 (cQ l)
def eRH (x : HRw) (j : Nat) : AV := match j with
  | 0 => st x.2.1
  | 1 => hdQ x.1 x.2.2.1
  | 2 => i64 x.2.2.2.1
  | _ => i64 x.2.2.2.2
@[simp] theorem Is_hdQ {h h' : Value} {l l' : List Rt} : Is (hdQ h l) (hdQ h' l') ↔ h = h' ∧ l = l' := by
  have e : Is (rats l) (rats l') ↔ l = l' := Is_rats
  unfold rats at e
  rw [Is] at e
  unfold hdQ
  rw [Is]
  exact and_congr_right fun _ => e
@[simp] theorem Is_hdQ_rats {h : Value} {l l' : List Rt} : Is (hdQ h l) (rats l') ↔ l = l' := by
  have e : Is (rats l) (rats l') ↔ l = l' := Is_rats
  unfold rats at e ⊢
  rw [Is] at e
  unfold hdQ
  rw [Is]
  exact e
theorem EncN.eRH : EncN 4 eRH := fun x y => by
  constructor
  · intro h
    have h0 : Is (st x.2.1) (st y.2.1) := h 0 (by decide)
    have h1 : Is (hdQ x.1 x.2.2.1) (hdQ y.1 y.2.2.1) := h 1 (by decide)
    have h2 : Is (i64 x.2.2.2.1) (i64 y.2.2.2.1) := h 2 (by decide)
    have h3 : Is (i64 x.2.2.2.2) (i64 y.2.2.2.2) := h 3 (by decide)
    simp only [Is_i64, Is_st, Is_hdQ] at h0 h1 h2 h3
    exact Prod.ext h1.1 (Prod.ext h0 (Prod.ext h1.2 (Prod.ext h2 h3)))
  · rintro rfl j hj
    match j, hj with
    | 0, _ => show Is (st x.2.1) (st x.2.1); simp
    | 1, _ => show Is (hdQ x.1 x.2.2.1) (hdQ x.1 x.2.2.1); exact Is_hdQ.2 ⟨rfl, rfl⟩
    | 2, _ => show Is (i64 x.2.2.2.1) (i64 x.2.2.2.1); simp
    | 3, _ => show Is (i64 x.2.2.2.2) (i64 x.2.2.2.2); simp
def cRH (l : List HRw) : Nat → Nat → AV := fun i j => eRH (l.getD i dH) j
def arRH (l : List HRw) : AObj := .arr l.length 4 fun i j => eRH (l.getD i dH) j
@[simp] theorem IsO_arRH {x y : List HRw} : IsO (arRH x) (arRH y) ↔ y = [] ∨ x = y := IsO_arn EncN.eRH
/-- Rows whose values' slices are owned too. -/
def xrR (l : List Rw) : AObj := .xarr l.length 4 fun i j => eR (l.getD i dR) j
def rowB (b : AV) (r : Rw) : AV := .agg [st r.1, b, i64 r.2.2.1, i64 r.2.2.2]
/-- Rows by their places, the last one being new. -/
def HPut (n : Nat) (y : List Nat) : Prop := y.length ≤ n + 1 ∧ y.Nodup ∧ ∀ i ∈ y, i ≤ n
def A_l7Put (L : List HRw) (r : HRw) : List Ann :=
  [.mk Nat (fun x => x ≤ L.length) (fun x => { fr := pad [.osl 0 0 L.length, .any, .any, .ptr 1 0, .any, i64 x] 61, H := [arRH L, .var [st r.2.1, hdQ r.1 r.2.2.1, i64 r.2.2.2.1, i64 r.2.2.2.2]] }) (fun x => L.length - x) (fun _ => [])]
end Cg

/-
  Lists of literals: how they lie in cells; sizes, copies, equality. No condition.
-/
set_option linter.unusedVariables false
set_option linter.unusedSimpArgs false
namespace Pl
def dL : Ltr := ((0, (ByteArray.empty, []), (ByteArray.empty, []), [], [], 0, false), false)
def costLs (l : List Ltr) : Nat := l.length + sumN costL l
end Pl
namespace Cg
open Go Pl
def eL (x : Ltr) (j : Nat) : AV := match j with
  | 0 => i64 x.1.1
  | 1 => st x.1.2.1.1
  | 2 => terms x.1.2.1.2
  | 3 => st x.1.2.2.1.1
  | 4 => terms x.1.2.2.1.2
  | 5 => terms x.1.2.2.2.1
  | 6 => ints x.1.2.2.2.2.1
  | 7 => i64 x.1.2.2.2.2.2.1
  | 8 => bl x.1.2.2.2.2.2.2
  | _ => bl x.2
theorem EncN.eL : EncN 10 eL := fun x y => by
  constructor
  · intro h
    have h0 : Is (i64 x.1.1) (i64 y.1.1) := h 0 (by decide)
    have h1 : Is (st x.1.2.1.1) (st y.1.2.1.1) := h 1 (by decide)
    have h2 : Is (terms x.1.2.1.2) (terms y.1.2.1.2) := h 2 (by decide)
    have h3 : Is (st x.1.2.2.1.1) (st y.1.2.2.1.1) := h 3 (by decide)
    have h4 : Is (terms x.1.2.2.1.2) (terms y.1.2.2.1.2) := h 4 (by decide)
    have h5 : Is (terms x.1.2.2.2.1) (terms y.1.2.2.2.1) := h 5 (by decide)
    have h6 : Is (ints x.1.2.2.2.2.1) (ints y.1.2.2.2.2.1) := h 6 (by decide)
    have h7 : Is (i64 x.1.2.2.2.2.2.1) (i64 y.1.2.2.2.2.2.1) := h 7 (by decide)
    have h8 : Is (bl x.1.2.2.2.2.2.2) (bl y.1.2.2.2.2.2.2) := h 8 (by decide)
    have h9 : Is (bl x.2) (bl y.2) := h 9 (by decide)
    simp only [Is_i64, Is_u8, Is_bl, Is_st, Is_ints, Is_bools, Is_strs, Is_intss, Is_terms] at h0 h1 h2 h3 h4 h5 h6 h7 h8 h9
    grind
  · rintro rfl j hj
    match j, hj with
    | 0, _ => show Is (i64 x.1.1) (i64 x.1.1); simp
    | 1, _ => show Is (st x.1.2.1.1) (st x.1.2.1.1); simp
    | 2, _ => show Is (terms x.1.2.1.2) (terms x.1.2.1.2); simp
    | 3, _ => show Is (st x.1.2.2.1.1) (st x.1.2.2.1.1); simp
    | 4, _ => show Is (terms x.1.2.2.1.2) (terms x.1.2.2.1.2); simp
    | 5, _ => show Is (terms x.1.2.2.2.1) (terms x.1.2.2.2.1); simp
    | 6, _ => show Is (ints x.1.2.2.2.2.1) (ints x.1.2.2.2.2.1); simp
    | 7, _ => show Is (i64 x.1.2.2.2.2.2.1) (i64 x.1.2.2.2.2.2.1); simp
    | 8, _ => show Is (bl x.1.2.2.2.2.2.2) (bl x.1.2.2.2.2.2.2); simp
    | 9, _ => show Is (bl x.2) (bl x.2); simp
def cL (l : List Ltr) : Nat → Nat → AV := fun i j => eL (l.getD i dL) j
def litrs (l : List Ltr) : AV := .sl l.length 10 fun i j => eL (l.getD i dL) j
def arL (l : List Ltr) : AObj := .arr l.length 10 fun i j => eL (l.getD i dL) j
theorem Enc.litrs : Enc litrs := Enc.sln (by decide) EncN.eL dL
@[simp] theorem Is_litrs {x y : List Ltr} : Is (litrs x) (litrs y) ↔ x = y := Enc.litrs x y
@[simp] theorem IsO_litrs {x y : List Ltr} : IsO (arL x) (arL y) ↔ y = [] ∨ x = y := IsO_arn EncN.eL
@[simp] theorem IsO_litrs0 {n : Nat} {c : Nat → Nat → AV} : IsO (.arr n 10 c) (arL []) := IsO_nil
@[simp] theorem litrs_nil {q : Nat} {c : Nat → Nat → AV} {m : List Ltr} : Is (.lit 0 q c) (litrs m) ↔ m = [] := nil_sln
@[simp] theorem litrs_nilA {m : List Ltr} : Is nilA (litrs m) ↔ m = [] := nil_sln
@[simp] theorem litrs_join {l m : List Ltr} : IsO (.arr (l.length + m.length) 10 (joinC l.length (cL l) (cL m))) (arL (l ++ m)) := IsO_join EncN.eL (IsR_cel EncN.eL)
@[simp] theorem litrs_join0 {m : List Ltr} {c : Nat → Nat → AV} : IsO (.arr (0 + m.length) 10 (joinC 0 c (cL m))) (arL m) := IsO_join0 EncN.eL (IsR_cel EncN.eL)
@[simp] theorem litrs_join0' {m : List Ltr} {c : Nat → Nat → AV} : IsO (.arr m.length 10 (joinC 0 c (cL m))) (arL m) := IsO_join0 EncN.eL (IsR_cel EncN.eL)
theorem Is_rowL {k : Int} {a : ByteArray} {b : List Tm} {c : ByteArray} {d nums : List Tm} {times : List Int} {bound : Int} {strict no : Bool} {b' d' n' t' : AV} (hb : Is b' (terms b)) (hd : Is d' (terms d)) (hn : Is n' (terms nums)) (ht : Is t' (ints times)) : ∀ j, j < 10 → Is ([i64 k, st a, b', st c, d', n', t', i64 bound, bl strict, bl no].getD j .any) (eL ((k, (a, b), (c, d), nums, times, bound, strict), no) j) := fun j hj => by
  match j, hj with
  | 0, _ => exact (Enc.i64 k k).2 rfl
  | 1, _ => exact (Enc.st a a).2 rfl
  | 2, _ => exact hb
  | 3, _ => exact (Enc.st c c).2 rfl
  | 4, _ => exact hd
  | 5, _ => exact hn
  | 6, _ => exact ht
  | 7, _ => exact (Enc.i64 bound bound).2 rfl
  | 8, _ => exact (Enc.bl strict strict).2 rfl
  | 9, _ => exact (Enc.bl no no).2 rfl
@[simp] theorem litrs_set {l : List Ltr} {i : Nat} {k : Int} {a : ByteArray} {b : List Tm} {c : ByteArray} {d nums : List Tm} {times : List Int} {bound : Int} {strict no : Bool} : IsO (.arr l.length 10 (storeC (cL l) i 0 [i64 k, st a, terms b, st c, terms d, terms nums, ints times, i64 bound, bl strict, bl no])) (arL (l.set i ((k, (a, b), (c, d), nums, times, bound, strict), no))) := IsO_set EncN.eL rfl (Is_rowL ((Enc.terms b b).2 rfl) ((Enc.terms d d).2 rfl) ((Enc.terms nums nums).2 rfl) ((Enc.ints times times).2 rfl))
@[simp] theorem litrs_make {n : Nat} : IsO (.arr n 10 (fun _ j => [i64 0, st ByteArray.empty, nilA, st ByteArray.empty, nilA, nilA, nilA, i64 0, bl false, bl false].getD j .any)) (arL (List.replicate n dL)) := IsO_make EncN.eL (Is_rowL (terms_nilA.2 rfl) (terms_nilA.2 rfl) (terms_nilA.2 rfl) (ints_nilA.2 rfl))
abbrev MlLs (l : List Ltr) : Prop := l.length ≤ 9223372036854775807 ∧ ∀ x ∈ l, MlA x.1
abbrev SmLs (l : List Ltr) : Prop := costLs l ≤ 1048576
def A_szLitS (l : List Ltr) (k : Int) : List Ann :=
  [.mk Nat (fun x => x ≤ l.length ∧ 0 ≤ k - l.length - sumN costL (l.take x)) (fun x => { fr := pad [litrs l, i64 (k - l.length - sumN costL (l.take x)), .any, .any, .any, i64 x] 27, H := [] }) (fun x => l.length - x) (fun _ => [])]
def A_toLitS (l : List Ltr) : List Ann :=
  [.mk (Nat × List Ltr) (fun x => x.1 ≤ l.length ∧ x.2.length = l.length ∧ x.2.take x.1 = l.take x.1) (fun x => { fr := pad [litrs l, .any, .any, .osl 0 0 x.2.length, i64 x.1] 23, H := [arL x.2] }) (fun x => l.length - x.1) (fun _ => [])]
def A_eqLitS (l m : List Ltr) : List Ann :=
  [.mk Nat (fun x => x ≤ l.length ∧ l.length = m.length ∧ (l = m ↔ l.drop x = m.drop x)) (fun x => { fr := pad [litrs l, litrs m, .any, .any, .any, i64 x] 27, H := [] }) (fun x => l.length - x) (fun _ => [])]
end Cg

/-
  Plain functions, and what is known of the codes' callees and loops: the values of terms. No condition.
-/
namespace Pl
open Go
def look (m : Mdl) (nm : ByteArray) (args : List Rt) : Rt := match m.find? fun r => decide (r.1 = nm) && decide (r.2.1 = args) with
  | some r => r.2.2
  | none => (0, 1)
mutual
def valT (m : Mdl) : Tm → Rt
  | .mk v ks => look m v (valL m ks)
def valL (m : Mdl) : List Tm → List Rt
  | [] => []
  | t :: ts => valT m t :: valL m ts
end
def bsF (c : Nat → Bool) (i j : Nat) : Nat := if i < j then (if c ((i + j) / 2) = true then bsF c ((i + j) / 2 + 1) j else bsF c i ((i + j) / 2)) else i
termination_by j - i
decreasing_by
  · omega
  · omega
def rowBelow (m : Mdl) (r : Rw) (i : Nat) : Bool := decide (cmpRows (m.getD i dR) r < 0)
def bsR (m : Mdl) (r : Rw) : Nat := bsF (rowBelow m r) 0 m.length
def bsHit (m : Mdl) (r : Rw) : Bool := decide (bsR m r < m.length) && decide (cmpRows (m.getD (bsR m r) dR) r = 0)
def modelTerm (s : Sig) (m : Mdl) (t : Tm) : Rt × Bool := if (!(termSort s t).2 || !modelOk s m) = true then ((0, 0), false) else (valT m t, true)
end Pl
namespace Cg
open Go Pl
def A_l7Look (m : Mdl) (nm : ByteArray) (args : List Rt) : List Ann :=
  [.mk Nat (fun x => x ≤ m.length ∧ look m nm args = look (m.drop x) nm args) (fun x => { fr := pad [.any, st nm, rats args, .ptr 0 0, .any, .any, .ptr 1 0, i64 x] 40, H := [.var [mrows m], .var [i64 0, i64 0]] }) (fun x => m.length - x) (fun _ => [])]
def A_l7Term (m : Mdl) (a : ByteArray) (b : List Tm) : List Ann :=
  [.mk Nat (fun x => x ≤ b.length) (fun x => { fr := pad [.any, .any, .ptr 0 0, .ptr 1 0, .ptr 2 0, .osl 3 0 (valL m (b.take x)).length, i64 x] 30, H := [.var [mrows m], .var [st a, terms b], .var [i64 0, i64 0], arQ (valL m (b.take x))] }) (fun x => b.length - x) (fun _ => [])]
def A_value (m : Mdl) (a : ByteArray) (b : List Tm) : List Ann :=
  [.mk Nat (fun x => x ≤ b.length) (fun x => { fr := pad [.any, .any, .ptr 0 0, .ptr 1 0, .ptr 2 0, .ptr 3 0, .any, .any, .any, .any, .any, .any, .any, .any, terms b, i64 b.length, i64 x] 45, H := [.var [mrows m], .var [st a, terms b], .var [i64 0, i64 0], .var [st a, .osl 4 0 (valL m (b.take x)).length, i64 0, i64 0], arQ (valL m (b.take x))] }) (fun x => b.length - x) (fun _ => [])]
end Cg

/-
  What is known of the library's callees: joined texts. No condition.
-/
namespace Pl
open Go
def bl' (s : ByteArray) : List UInt8 := s.data.toList
def interL (sep : List UInt8) : List (List UInt8) → List UInt8
  | [] => []
  | [x] => x
  | x :: y :: r => x ++ sep ++ interL sep (y :: r)
def joinS (xs : List ByteArray) (sep : ByteArray) : ByteArray := ⟨(interL (bl' sep) (xs.map bl')).toArray⟩
end Pl
namespace Cg
open Go Pl
end Cg

/-
  Plain functions, and what is known of the codes' callees and loops: valid atoms. No condition.
-/
namespace Pl
open Go
def mkB (l : List UInt8) : ByteArray := ⟨⟨l⟩⟩
mutual
def textB : Tm → List UInt8
  | .mk v ks => if ks.isEmpty then bl' v else bl' v ++ [40] ++ interL [44] (textBs ks) ++ [41]
def textBs : List Tm → List (List UInt8)
  | [] => []
  | t :: ts => textB t :: textBs ts
end
def textT (t : Tm) : ByteArray := mkB (textB t)
def textL (l : List Tm) : List ByteArray := l.map textT
def spellB (v : List UInt8) (ts : List (List UInt8)) : List UInt8 := if ts.isEmpty then v else v ++ [40] ++ interL [44] ts
def spell (v : ByteArray) (ts : List Tm) : ByteArray := mkB (spellB (bl' v) (textBs ts))
def noneT (x : TP) : Bool := decide (x.1 = ByteArray.empty) && decide (x.2 = [])
def above (p : Option Tm) (t : Tm) : Bool := match p with
  | none => true
  | some q => sLess (textT q) (textT t)
def timeOk (n : Int) : Bool := decide (n ≠ 0) && decide (-50 ≤ n) && decide (n ≤ 50)
def numOk : Option Tm → List Tm → List Int → Bool
  | p, t :: ts, n :: ns => (right t && timeOk n && above p t) && numOk (some t) ts ns
  | _, _, _ => true
def prevN (l : List Tm) (k : Nat) : Option Tm := if k = 0 then none else some (l.getD (k - 1) dT)
def sumHead (x : Atm) : Bool := noneT x.2.1 && noneT x.2.2.1 && decide (x.2.2.2.1.length = x.2.2.2.2.1.length) && decide (1 ≤ x.2.2.2.1.length) && decide (x.2.2.2.1.length ≤ 4) && decide (-1000 ≤ x.2.2.2.2.2.1) && decide (x.2.2.2.2.2.1 ≤ 1000)
def sumRight (x : Atm) : Bool := sumHead x && numOk none x.2.2.2.1 x.2.2.2.2.1
def eqRight (x : Atm) : Bool := right (.mk x.2.1.1 x.2.1.2) && right (.mk x.2.2.1.1 x.2.2.1.2) && decide (x.2.2.2.1 = []) && decide (x.2.2.2.2.1 = []) && decide (x.2.2.2.2.2.1 = 0) && !x.2.2.2.2.2.2
def atomRight (x : Atm) : Bool := if x.1 = 2 then sumRight x else decide (x.1 = 1) && eqRight x
def isNum (s : Sig) (t : Tm) : Bool := (termSort s t).2 && decide ((termSort s t).1 = 1)
def eqSorted (s : Sig) (a b : Tm) : Bool := (termSort s a).2 && (termSort s b).2 && decide ((termSort s a).1 = (termSort s b).1)
def atomOk (s : Sig) (x : Atm) : Bool := sigOk s && atomRight x && if x.1 = 1 then eqSorted s (.mk x.2.1.1 x.2.1.2) (.mk x.2.2.1.1 x.2.2.1.2) else x.2.2.2.1.all (isNum s)
end Pl
namespace Cg
open Go Pl
def atomC (x : Atm) : List AV := [i64 x.1, st x.2.1.1, terms x.2.1.2, st x.2.2.1.1, terms x.2.2.1.2, terms x.2.2.2.1, ints x.2.2.2.2.1, i64 x.2.2.2.2.2.1, bl x.2.2.2.2.2.2]
def A_l4Text (a : ByteArray) (b : List Tm) : List Ann :=
  [.mk Nat (fun x => x ≤ b.length) (fun x => { fr := pad [.any, .ptr 0 0, .any, st (spell a (b.take x)), i64 x] 34, H := [.var [st a, terms b]] }) (fun x => b.length - x) (fun _ => [])]
def A_termText (a : ByteArray) (b : List Tm) : List Ann :=
  [.mk Nat (fun x => x ≤ b.length ∧ b ≠ []) (fun x => { fr := pad [.any, .ptr 0 0, .any, .osl 1 0 (textL (b.take x)).length, .any, .any, .any, .any, .any, .any, .any, .any, .any, terms b, i64 b.length, i64 x] 32, H := [.var [st a, terms b], arS (textL (b.take x))] }) (fun x => b.length - x) (fun _ => [])]
def A_l6Sum (a : Atm) : List Ann :=
  [.mk Nat (fun x => sumHead a = true ∧ x ≤ a.2.2.2.1.length ∧ numOk none a.2.2.2.1 a.2.2.2.2.1 = numOk (prevN a.2.2.2.1 x) (a.2.2.2.1.drop x) (a.2.2.2.2.1.drop x)) (fun x => { fr := pad [.any, .ptr 0 0, .any, i64 x] 97, H := [.var (atomC a)] }) (fun x => a.2.2.2.1.length - x) (fun _ => [])]
def A_Atomok (a : Atm) : List Ann :=
  [.mk Nat (fun x => a.1 = 2 ∧ sumHead a = true ∧ x ≤ a.2.2.2.1.length ∧ numOk none a.2.2.2.1 a.2.2.2.2.1 = numOk (prevN a.2.2.2.1 x) (a.2.2.2.1.drop x) (a.2.2.2.2.1.drop x)) (fun x => { fr := pad ([.any, .ptr 0 0] ++ List.replicate 72 .any ++ [terms a.2.2.2.1, i64 a.2.2.2.1.length, i64 x]) 118, H := [.var (atomC a)] }) (fun x => a.2.2.2.1.length - x) (fun _ => [])]
def A_sAtomOk (s : Sig) (a : Atm) : List Ann :=
  [.mk Nat (fun x => sigOk s = true ∧ atomRight a = true ∧ a.1 ≠ 1 ∧ x ≤ a.2.2.2.1.length ∧ a.2.2.2.1.all (isNum s) = (a.2.2.2.1.drop x).all (isNum s)) (fun x => { fr := pad [.any, .any, .ptr 0 0, .ptr 1 0, .any, .any, i64 x] 47, H := [.var [syms s], .var (atomC a)] }) (fun x => a.2.2.2.1.length - x) (fun _ => [])]
end Cg

/-
  Plain functions, and what is known of the codes' callees and loops: the truth of literals in models. No condition.
-/
namespace Pl
open Go
def least (n d : Int) : Option Rt := if ratOk (n.tdiv (Nat.gcd n.natAbs d.natAbs), d.tdiv (Nat.gcd n.natAbs d.natAbs)) = true then some (n.tdiv (Nat.gcd n.natAbs d.natAbs), d.tdiv (Nat.gcd n.natAbs d.natAbs)) else none
def ratAdd (a b : Rt) : Option Rt := if (ratOk a && ratOk b) = true then least (a.1 * b.2 + b.1 * a.2) (a.2 * b.2) else none
def ratMul (a b : Rt) : Option Rt := if (ratOk a && ratOk b) = true then least (a.1 * b.1) (a.2 * b.2) else none
def ratV (x : Option Rt) : Rt := x.getD (0, 0)
def plusV (s : Rt) (c : Int) (v : Rt) : Option Rt := (ratMul (c, 1) v).bind fun x => ratAdd s x
def under (s : Rt) (b : Int) (strict : Bool) : Bool := if strict = true then ratLess s (b, 1) else !ratLess (b, 1) s
def sumS (m : Mdl) : Rt → List Tm → List Int → Rt × Bool
  | s, t :: ts, n :: ns => match ratMul (n, 1) (valT m t) with
    | none => (s, false)
    | some x => match ratAdd s x with
      | none => ((0, 0), false)
      | some y => sumS m y ts ns
  | s, _, _ => (s, true)
def atomV (m : Mdl) (x : Atm) : Bool × Bool := if x.1 = 1 then (decide (valT m (.mk x.2.1.1 x.2.1.2) = valT m (.mk x.2.2.1.1 x.2.2.1.2)), true) else
  if (sumS m (0, 1) x.2.2.2.1 x.2.2.2.2.1).2 = true then (under (sumS m (0, 1) x.2.2.2.1 x.2.2.2.2.1).1 x.2.2.2.2.2.1 x.2.2.2.2.2.2, true) else (false, false)
def modelLit (s : Sig) (m : Mdl) (l : Ltr) : Bool × Bool := if (!modelOk s m || !atomOk s l.1) = true then (false, false) else if (atomV m l.1).2 = true then ((atomV m l.1).1 != l.2, true) else (false, false)
def litIs (s : Sig) (m : Mdl) (l : Ltr) : Bool := (modelLit s m l).1 && (modelLit s m l).2
def modelAll (s : Sig) (m : Mdl) (l : List Ltr) : Bool := modelOk s m && l.all (litIs s m)
end Pl
namespace Cg
open Go Pl
def A_l7Sum (m : Mdl) (a : Atm) : List Ann :=
  [.mk (Nat × Rt) (fun x => x.1 ≤ a.2.2.2.1.length ∧ ratOk x.2 = true ∧ sumS m (0, 1) a.2.2.2.1 a.2.2.2.2.1 = sumS m x.2 (a.2.2.2.1.drop x.1) (a.2.2.2.2.1.drop x.1)) (fun x => { fr := pad [.any, .any, .ptr 0 0, .ptr 1 0, .ptr 2 0, .any, .ptr 3 0, i64 x.1] 48, H := [.var [mrows m], .var (atomC a), .var [i64 0, i64 0], .var [i64 x.2.1, i64 x.2.2]] }) (fun x => a.2.2.2.1.length - x.1) (fun _ => [])]
def A_atomV (m : Mdl) (a : Atm) : List Ann :=
  [.mk (Nat × Rt) (fun x => ¬ a.1 = 1 ∧ x.1 ≤ a.2.2.2.1.length ∧ ratOk x.2 = true ∧ sumS m (0, 1) a.2.2.2.1 a.2.2.2.2.1 = sumS m x.2 (a.2.2.2.1.drop x.1) (a.2.2.2.2.1.drop x.1)) (fun x => { fr := pad ([.any, .any, .ptr 0 0, .ptr 1 0, .any, .any, .ptr 2 0] ++ List.replicate 18 .any ++ [terms a.2.2.2.1, i64 a.2.2.2.1.length, i64 x.1]) 55, H := [.var [mrows m], .var (atomC a), .var [i64 x.2.1, i64 x.2.2]] }) (fun x => a.2.2.2.1.length - x.1) (fun _ => [])]
def A_sModelAll (s : Sig) (m : Mdl) (l : List Ltr) : List Ann :=
  [.mk Nat (fun x => x ≤ l.length ∧ l.all (litIs s m) = (l.drop x).all (litIs s m)) (fun x => { fr := pad [.any, .any, litrs l, .ptr 0 0, .ptr 1 0, .any, .any, i64 x] 35, H := [.var [syms s], .var [mrows m]] }) (fun x => l.length - x) (fun _ => [])]
def A_iModelAll (s : Sig) (m : Mdl) (l : List Ltr) : List Ann :=
  [.mk Nat (fun x => modelOk s m = true ∧ x ≤ l.length ∧ l.all (litIs s m) = (l.drop x).all (litIs s m)) (fun x => { fr := pad ([.any, .any, .any, .ptr 0 0, .ptr 1 0] ++ List.replicate 10 .any ++ [litrs l, i64 l.length, i64 x]) 35, H := [.var [syms s], .var [mrows m]] }) (fun x => l.length - x) (fun _ => [])]
end Cg

/-
  Plain functions, and what is known of the codes' callees and loops: drawn words and models. No condition.
-/
set_option linter.unusedVariables false
set_option linter.unusedSimpArgs false
namespace Pl
def base (k : Int) : Sig :=
  if k = 0 then [(⟨#[97]⟩, [], 0), (⟨#[98]⟩, [], 0), (⟨#[99]⟩, [], 0), (⟨#[102]⟩, [0], 0), (⟨#[103]⟩, [0, 0], 0)] else
  if k = 1 then [(⟨#[97]⟩, [], 0), (⟨#[98]⟩, [], 0), (⟨#[104]⟩, [0], 1), (⟨#[120]⟩, [], 1), (⟨#[121]⟩, [], 1)] else
  if k = 2 then [(⟨#[107]⟩, [1], 1), (⟨#[120]⟩, [], 1), (⟨#[121]⟩, [], 1), (⟨#[122]⟩, [], 1)] else
  if k = 3 then [(⟨#[97]⟩, [], 0), (⟨#[117]⟩, [1], 0), (⟨#[118]⟩, [1, 0], 1), (⟨#[120]⟩, [], 1), (⟨#[121]⟩, [], 1)] else []
/-- Few words. -/
def SgB (n k : Nat) (s : Sig) : Prop := s.length ≤ n ∧ ∀ x ∈ s, x.1.size ≤ 10 ∧ x.2.1.length ≤ k
/-- A small model. -/
def MdB (n k : Nat) (m : Mdl) : Prop := m.length ≤ n ∧ ∀ x ∈ m, x.1.size ≤ 10 ∧ x.2.1.length ≤ k
end Pl
namespace Cg
open Go Pl
/-- Words whose parts' sorts are owned too. -/
def xrY (l : List Sym) : AObj := .xarr l.length 3 fun i j => eY (l.getD i dY) j
abbrev RX := List Int × Int
def rdV (x : RX) : AObj := .var [byts x.1, i64 x.2]
def K_of : Nat × Contract := (Nm.spec_l16Rd_of, .eff (List Int × Int × List ByteArray) (fun x => ⟨[.ptr 0 0, strs x.2.2], [.var [byts x.1, i64 x.2.1]]⟩) (fun x => Rd 1099511627776 x.1 x.2.1 ∧ x.2.2 ≠ [] ∧ Sz x.2.2) ByteArray (fun x y => y ∈ x.2.2) fun x y => (st y, [.var [byts x.1, i64 (x.2.1 + 1)]]))
def K_l4Base : Nat × Contract := (Nm.spec_l4Base, .im Int (fun k => [i64 k]) (fun _ => True) fun k => sigA (base k))
def K_l4Sig : Nat × Contract := (Nm.spec_l4Sig, .eff RX (fun x => ⟨[.ptr 0 0], [.var [byts x.1, i64 x.2]]⟩) (fun x => Rd 549755813888 x.1 x.2) Sig (fun _ y => SgB 5 2 y) fun x y => (sigA y, [.var [byts x.1, i64 (x.2 + 1)]]))
abbrev BX := List Int × Int × Sig
def K_l4Bent : Nat × Contract := (Nm.spec_l4Bent, .eff (List Int × Int × Sig × Nat × Nat) (fun x => ⟨[.ptr 0 0, sigA x.2.2.1], [.var [byts x.1, i64 x.2.1]]⟩) (fun x => Rd 274877906944 x.1 x.2.1 ∧ SgB x.2.2.2.1 x.2.2.2.2 x.2.2.1 ∧ 7 ≤ x.2.2.2.1 ∧ x.2.2.2.1 ≤ 14 ∧ x.2.2.2.2 ≤ 8) (Sig × Int) (fun x y => SgB (x.2.2.2.1 + 1) (x.2.2.2.2 + 1) y.1 ∧ x.2.1 ≤ y.2 ∧ y.2 ≤ x.2.1 + 100) fun x y => (sigA y.1, [.var [byts x.1, i64 y.2]]))
def A_l4Bent (b : List Int) (p : Int) (s : Sig) (n k : Nat) : List Ann :=
  [.mk Nat (fun x => x ≤ s.length) (fun x => { fr := pad [.ptr 0 0, .any, .any, .ptr 1 0, .ptr 2 0, .ptr 3 0, i64 x] 116, H := [.var [byts b, i64 p], .var [syms s], .var [nilA], .var [.osl 4 0 x], xrY (s.take x)] }) (fun x => s.length - x) (fun _ => []),
   .mk (Sig × Int) (fun x => SgB (n + 1) (k + 1) x.1 ∧ p ≤ x.2 ∧ x.2 ≤ p + 50 + x.1.length) (fun x => { fr := pad [.ptr 0 0, .any, .any, .any, .ptr 2 0, .ptr 3 0] 116, H := [.var [byts b, i64 x.2], .dead, .var [nilA], .var [.osl 4 0 x.1.length], arY x.1] }) (fun x => 15 - x.1.length) (fun _ => [])]
def A_l7Any (b : List Int) (p : Int) (s : Sig) : List Ann :=
  [.mk (Nat × Mdl × Int) (fun x => x.1 ≤ s.length ∧ MdB (3 * x.1) 2 x.2.1 ∧ p ≤ x.2.2 ∧ x.2.2 ≤ p + 100 * x.1)
    (fun x => { fr := pad [.ptr 0 0, .any, .any, .ptr 1 0, .ptr 2 0, .osl 3 0 x.2.1.length, i64 x.1] 72, H := [.var [byts b, i64 x.2.2], .var [syms s], .var [nilA], xrR x.2.1] }) (fun x => s.length - x.1)
    (fun x => [.mk (Int × Mdl × Int) (fun z => 0 ≤ z.1 ∧ z.1 ≤ 3 ∧ MdB (3 * x.1 + 3 - z.1.toNat) 2 z.2.1 ∧ p ≤ z.2.2 ∧ z.2.2 ≤ p + 100 * x.1 + 1 + 30 * (3 - z.1))
      (fun z => { fr := pad [.ptr 0 0, .any, .any, .ptr 1 0, .ptr 2 0, .osl 3 0 z.2.1.length, i64 x.1, i64 z.1] 72, H := [.var [byts b, i64 z.2.2], .var [syms s], .var [nilA], xrR z.2.1] }) (fun z => z.1.toNat)
      (fun z => [.mk (Nat × List Rt × Rt × Int) (fun u => u.1 ≤ (s.getD x.1 dY).2.1.length ∧ u.2.1.length = u.1 ∧ p ≤ u.2.2.2 ∧ u.2.2.2 ≤ p + 100 * x.1 + 3 + 30 * (3 - z.1) + 2 * u.1)
        (fun u => { fr := pad [.ptr 0 0, .any, .any, .ptr 1 0, .ptr 2 0, .osl 3 0 z.2.1.length, i64 x.1, i64 z.1, .ptr 4 0, i64 u.1] 72, H := [.var [byts b, i64 u.2.2.2], .var [syms s], .var [nilA], xrR z.2.1, .var [st (s.getD x.1 dY).1, .osl 5 0 u.2.1.length, i64 u.2.2.1.1, i64 u.2.2.1.2], arQ u.2.1] }) (fun u => (s.getD x.1 dY).2.1.length - u.1) (fun _ => [])])])]
def A_yModelEq : List Ann :=
  [.mk (Sig × Mdl × Nat) (fun x => SgB 15 9 x.1 ∧ MdB 16 3 x.2.1 ∧ x.2.2 ≤ x.2.1.length)
    (fun x => { fr := pad [.any, .any, .any, .any, .any, .ptr 0 0, .ptr 1 0, bl (modelOk x.1 x.2.1), i64 x.2.2] 87, H := [.var [syms x.1], .var [mrows x.2.1]] }) (fun x => x.2.1.length - x.2.2) (fun _ => [])]
end Cg

/-
  What is known of the codes' callees and loops: the law that vocabularies can shrink. No condition.
-/
set_option linter.unusedVariables false
set_option linter.unusedSimpArgs false
namespace Cg
open Go Pl
def K_DrawSigOk : Nat × Contract := (Nm.spec_DrawSigOk, .eff (List Int) (fun b => ⟨[byts b], []⟩) (fun b => Sz b ∧ Byt b) Sig (fun _ y => SgB 8 3 y) fun _ y => (sigA y, []))
def K_ySigLess : Nat × Contract := (Nm.laws_FnSigLess, .sc (List Int) (fun b => [byts b]) Byt fun _ => bl true)
def A_ySigLess : List Ann :=
  [.mk (Sig × Nat) (fun x => SgB 8 3 x.1 ∧ sigOk x.1 = true ∧ x.2 ≤ x.1.length)
    (fun x => { fr := pad [.any, .any, .any, .ptr 0 0, .any, i64 x.2] 77, H := [.var [syms x.1]] }) (fun x => x.1.length - x.2) (fun _ => [])]
end Cg

/-
  What is left to show of each function's code, printed by a program: Sgl. No condition.
-/
set_option maxRecDepth 100000
set_option linter.unusedVariables false
namespace Cg
open Go Go.Proofs
theorem vc_DrawSigOk (b : List Int) : (∃ x : List Int,
 (Sz x ∧ Byt x) ∧ ((Is (byts b) (byts x) ∧ True) ∧ True) ∧ ∀ (y : List Int),
 Rd (0 : Int) y (0 : Int) →
 ∃ x : RX,
 Rd (549755813888 : Int) x.1 x.2 ∧ (((0 : Nat) = (0 : Nat) ∧ True) ∧ (Is (byts y) (byts x.1) ∧ (0 : Int) = x.2 ∧ True) ∧ True) ∧ ∀ (y : Pl.Sig),
 Pl.SgB (5 : Nat) (2 : Nat) y →
 ∃ x_1 : List Int × Int × Pl.Sig × Nat × Nat,
 (Rd (274877906944 : Int) x_1.1 x_1.2.1 ∧ Pl.SgB x_1.2.2.2.1 x_1.2.2.2.2 x_1.2.2.1 ∧ (7 : Nat) ≤ x_1.2.2.2.1 ∧ x_1.2.2.2.1 ≤ (14 : Nat) ∧ x_1.2.2.2.2 ≤ (8 : Nat)) ∧ (((0 : Nat) = (0 : Nat) ∧ (Is (syms y) (syms x_1.2.2.1) ∧ True) ∧ True) ∧ (Is (byts x.1) (byts x_1.1) ∧ x.2 + (1 : Int) = x_1.2.1 ∧ True) ∧ True) ∧ ∀ (y : Pl.Sig × Int),
 Pl.SgB (x_1.2.2.2.1 + (1 : Nat)) (x_1.2.2.2.2 + (1 : Nat)) y.1 ∧ x_1.2.1 ≤ y.2 ∧ y.2 ≤ x_1.2.1 + (100 : Int) →
 ∃ y_1 : Pl.Sig, Pl.SgB (8 : Nat) (3 : Nat) y_1 ∧ ((Is (syms y.1) (syms y_1) ∧ True) ∧ True) ∧ True) = Goal Try.prog [K_l16Open, K_l4Sig, K_l4Bent] ([]) K_DrawSigOk.1 K_DrawSigOk.2 (b) := by kernel_rfl

theorem vc_ySigLess (b : List Int) : (condP (decide ((↑b.length : Int) > (1048576 : Int))) (true = true)
 (∃ x : List Int,
 (Sz x ∧ Byt x) ∧ ((Is (byts b) (byts x) ∧ True) ∧ True) ∧ ∀ (y : Pl.Sig),
 Pl.SgB (8 : Nat) (3 : Nat) y →
 ∃ x : Pl.Sig,
 ((Is (syms y) (syms x) ∧ True) ∧ True) ∧ SmG x ∧ ∃ x_1 : Pl.Sig,
 ((Is (syms y) (syms x_1) ∧ True) ∧ True) ∧ SmG x_1 ∧ condP (!Pl.sigOk x == Pl.sigOk x_1) (∃ x_2 : Pl.Sig, ((Is (syms y) (syms x_2) ∧ True) ∧ True) ∧ SmG x_2 ∧ (Pl.sigOk x == Pl.sigOk x_2) = true)
 (condP (!Pl.sigOk x) (∃ x_2 : Pl.Sig, ((Is (syms y) (syms x_2) ∧ True) ∧ True) ∧ SmG x_2 ∧ (Pl.sigOk x == Pl.sigOk x_2) = true)
 ((∃ x : Pl.Sig × Nat,
 (Pl.SgB (8 : Nat) (3 : Nat) x.1 ∧ Pl.sigOk x.1 = true ∧ x.2 ≤ List.length x.1) ∧ ((0 : Nat) = (0 : Nat) ∧ (0 : Int) = (↑x.2 : Int) ∧ True) ∧ (Is (syms y) (syms x.1) ∧ True) ∧ True) ∧ ∀ (x : Pl.Sig × Nat),
 Pl.SgB (8 : Nat) (3 : Nat) x.1 ∧ Pl.sigOk x.1 = true ∧ x.2 ≤ List.length x.1 →
 condP (decide ((↑x.2 : Int) < (↑(List.length x.1) : Int)))
 (((0 : Int) ≤ (↑x.2 : Int) ∧ (↑x.2 : Int) ≤ (↑(List.length x.1) : Int)) ∧ ((0 : Int) ≤ IntKind.i64.wrap ((↑x.2 : Int) + (1 : Int)) ∧ IntKind.i64.wrap ((↑x.2 : Int) + (1 : Int)) ≤ (↑(List.length x.1) : Int)) ∧ (((0 : Nat) = (0 : Nat) ∨ (0 : Nat) < x.2) ∧ ((0 : Nat) + x.2) * (48 : Nat) ≤ (70368744177664 : Nat) ∧ ((0 : Nat) + ((0 : Nat) + x.2) ≤ (0 : Nat) + x.2 ∧ ((0 : Nat) + x.2 + (List.length x.1 - (IntKind.i64.wrap ((↑x.2 : Int) + (1 : Int))).toNat)) * (48 : Nat) ≤ (70368744177664 : Nat) ∧ ((0 : Int) ≤ IntKind.i64.wrap ((↑x.2 : Int) + (1 : Int)) ∧ IntKind.i64.wrap ((↑x.2 : Int) + (1 : Int)) ≤ (↑(List.length x.1) : Int)) ∧ ((0 : Int) ≤ (↑x.2 : Int) ∧ (↑x.2 : Int) ≤ (↑(List.length x.1) : Int)) ∧ (((0 : Nat) = (0 : Nat) ∨ (0 : Nat) < (IntKind.i64.wrap ((↑x.2 : Int) + (1 : Int))).toNat) ∧ ((0 : Nat) + (IntKind.i64.wrap ((↑x.2 : Int) + (1 : Int))).toNat) * (48 : Nat) ≤ (70368744177664 : Nat) ∧ ((0 : Nat) + ((0 : Nat) + (IntKind.i64.wrap ((↑x.2 : Int) + (1 : Int))).toNat) ≤
 (0 : Nat) + (IntKind.i64.wrap ((↑x.2 : Int) + (1 : Int))).toNat ∧ ((0 : Nat) + (IntKind.i64.wrap ((↑x.2 : Int) + (1 : Int))).toNat + (List.length x.1 - x.2)) * (48 : Nat) ≤
 (70368744177664 : Nat) ∧ (0 : Nat) + ((0 : Nat) + x.2 + (List.length x.1 - (IntKind.i64.wrap ((↑x.2 : Int) + (1 : Int))).toNat)) ≤
 (0 : Nat) + x.2 + (List.length x.1 - (IntKind.i64.wrap ((↑x.2 : Int) + (1 : Int))).toNat) ∧ ∃ x_2 : Pl.Sig,
 ((Is
 (AV.sl ((0 : Nat) + x.2 + (List.length x.1 - (IntKind.i64.wrap ((↑x.2 : Int) + (1 : Int))).toNat)) (3 : Nat)
 fun (i j : Nat) =>
 joinC ((0 : Nat) + x.2) (cY x.1)
 (fun (i j : Nat) => eY (List.getD x.1 (i + (IntKind.i64.wrap ((↑x.2 : Int) + (1 : Int))).toNat) Pl.dY) j)
 i j)
 (syms x_2) ∧ True) ∧ True) ∧ SmG x_2 ∧ condP (!Pl.sigOk x_2) (false = true)
 ((0 : Nat) + ((0 : Nat) + (IntKind.i64.wrap ((↑x.2 : Int) + (1 : Int))).toNat + (List.length x.1 - x.2)) ≤
 (0 : Nat) + (IntKind.i64.wrap ((↑x.2 : Int) + (1 : Int))).toNat + (List.length x.1 - x.2) ∧ ∃ x_3 : Pl.Sig,
 ((Is
 (AV.sl ((0 : Nat) + (IntKind.i64.wrap ((↑x.2 : Int) + (1 : Int))).toNat + (List.length x.1 - x.2))
 (3 : Nat) fun (i j : Nat) =>
 joinC ((0 : Nat) + (IntKind.i64.wrap ((↑x.2 : Int) + (1 : Int))).toNat) (cY x.1)
 (fun (i j : Nat) => eY (List.getD x.1 (i + x.2) Pl.dY) j) i j)
 (syms x_3) ∧ True) ∧ True) ∧ SmG x_3 ∧ condP (Pl.sigOk x_3) (false = true)
 (((0 : Int) ≤ (↑x.2 : Int) ∧ (↑x.2 : Int) < (↑(List.length x.1) : Int)) ∧ x.2 < List.length x.1 ∧ ∃ x_4 : ByteArray,
 ((List.getD x.1 x.2 Pl.dY).1 = x_4 ∧ True) ∧ x_4.size ≤ (1048576 : Nat) ∧ condP (!Pl.nameOk x_4) (false = true)
 (Exists fun (x' : Pl.Sig × Nat) =>
 (Pl.SgB (8 : Nat) (3 : Nat) x'.1 ∧ Pl.sigOk x'.1 = true ∧ x'.2 ≤ List.length x'.1) ∧ List.length x'.1 - x'.2 < List.length x.1 - x.2 ∧ ((0 : Nat) = (0 : Nat) ∧ IntKind.i64.wrap ((↑x.2 : Int) + (1 : Int)) = (↑x'.2 : Int) ∧ True) ∧ (Is (syms x.1) (syms x'.1) ∧ True) ∧ True)))) ∧ (0 : Nat) + ((0 : Nat) + (IntKind.i64.wrap ((↑x.2 : Int) + (1 : Int))).toNat) ≤
 (0 : Nat) + (IntKind.i64.wrap ((↑x.2 : Int) + (1 : Int))).toNat ∧ ((0 : Nat) + (IntKind.i64.wrap ((↑x.2 : Int) + (1 : Int))).toNat + (List.length x.1 - x.2)) * (48 : Nat) ≤
 (70368744177664 : Nat) ∧ (0 : Nat) + ((0 : Nat) + x.2 + (List.length x.1 - (IntKind.i64.wrap ((↑x.2 : Int) + (1 : Int))).toNat)) ≤
 (0 : Nat) + x.2 + (List.length x.1 - (IntKind.i64.wrap ((↑x.2 : Int) + (1 : Int))).toNat) ∧ ∃ x_2 : Pl.Sig,
 ((Is
 (AV.sl ((0 : Nat) + x.2 + (List.length x.1 - (IntKind.i64.wrap ((↑x.2 : Int) + (1 : Int))).toNat)) (3 : Nat)
 fun (i j : Nat) =>
 joinC ((0 : Nat) + x.2) (cY x.1)
 (fun (i j : Nat) => eY (List.getD x.1 (i + (IntKind.i64.wrap ((↑x.2 : Int) + (1 : Int))).toNat) Pl.dY) j)
 i j)
 (syms x_2) ∧ True) ∧ True) ∧ SmG x_2 ∧ condP (!Pl.sigOk x_2) (false = true)
 ((0 : Nat) + ((0 : Nat) + (IntKind.i64.wrap ((↑x.2 : Int) + (1 : Int))).toNat + (List.length x.1 - x.2)) ≤
 (0 : Nat) + (IntKind.i64.wrap ((↑x.2 : Int) + (1 : Int))).toNat + (List.length x.1 - x.2) ∧ ∃ x_3 : Pl.Sig,
 ((Is
 (AV.sl ((0 : Nat) + (IntKind.i64.wrap ((↑x.2 : Int) + (1 : Int))).toNat + (List.length x.1 - x.2))
 (3 : Nat) fun (i j : Nat) =>
 joinC ((0 : Nat) + (IntKind.i64.wrap ((↑x.2 : Int) + (1 : Int))).toNat) (cY x.1)
 (fun (i j : Nat) => eY (List.getD x.1 (i + x.2) Pl.dY) j) i j)
 (syms x_3) ∧ True) ∧ True) ∧ SmG x_3 ∧ condP (Pl.sigOk x_3) (false = true)
 (((0 : Int) ≤ (↑x.2 : Int) ∧ (↑x.2 : Int) < (↑(List.length x.1) : Int)) ∧ x.2 < List.length x.1 ∧ ∃ x_4 : ByteArray,
 ((List.getD x.1 x.2 Pl.dY).1 = x_4 ∧ True) ∧ x_4.size ≤ (1048576 : Nat) ∧ condP (!Pl.nameOk x_4) (false = true)
 (Exists fun (x' : Pl.Sig × Nat) =>
 (Pl.SgB (8 : Nat) (3 : Nat) x'.1 ∧ Pl.sigOk x'.1 = true ∧ x'.2 ≤ List.length x'.1) ∧ List.length x'.1 - x'.2 < List.length x.1 - x.2 ∧ ((0 : Nat) = (0 : Nat) ∧ IntKind.i64.wrap ((↑x.2 : Int) + (1 : Int)) = (↑x'.2 : Int) ∧ True) ∧ (Is (syms x.1) (syms x'.1) ∧ True) ∧ True)))) ∧ ((0 : Nat) = (0 : Nat) ∨ (0 : Nat) < (IntKind.i64.wrap ((↑x.2 : Int) + (1 : Int))).toNat) ∧ ((0 : Nat) + (IntKind.i64.wrap ((↑x.2 : Int) + (1 : Int))).toNat) * (48 : Nat) ≤ (70368744177664 : Nat) ∧ (0 : Nat) + ((0 : Nat) + (IntKind.i64.wrap ((↑x.2 : Int) + (1 : Int))).toNat) ≤
 (0 : Nat) + (IntKind.i64.wrap ((↑x.2 : Int) + (1 : Int))).toNat ∧ ((0 : Nat) + (IntKind.i64.wrap ((↑x.2 : Int) + (1 : Int))).toNat + (List.length x.1 - x.2)) * (48 : Nat) ≤
 (70368744177664 : Nat) ∧ (0 : Nat) + ((0 : Nat) + x.2 + (List.length x.1 - (IntKind.i64.wrap ((↑x.2 : Int) + (1 : Int))).toNat)) ≤
 (0 : Nat) + x.2 + (List.length x.1 - (IntKind.i64.wrap ((↑x.2 : Int) + (1 : Int))).toNat) ∧ ∃ x_2 : Pl.Sig,
 ((Is
 (AV.sl ((0 : Nat) + x.2 + (List.length x.1 - (IntKind.i64.wrap ((↑x.2 : Int) + (1 : Int))).toNat)) (3 : Nat)
 fun (i j : Nat) =>
 joinC ((0 : Nat) + x.2) (cY x.1)
 (fun (i j : Nat) => eY (List.getD x.1 (i + (IntKind.i64.wrap ((↑x.2 : Int) + (1 : Int))).toNat) Pl.dY) j) i
 j)
 (syms x_2) ∧ True) ∧ True) ∧ SmG x_2 ∧ condP (!Pl.sigOk x_2) (false = true)
 ((0 : Nat) + ((0 : Nat) + (IntKind.i64.wrap ((↑x.2 : Int) + (1 : Int))).toNat + (List.length x.1 - x.2)) ≤
 (0 : Nat) + (IntKind.i64.wrap ((↑x.2 : Int) + (1 : Int))).toNat + (List.length x.1 - x.2) ∧ ∃ x_3 : Pl.Sig,
 ((Is
 (AV.sl ((0 : Nat) + (IntKind.i64.wrap ((↑x.2 : Int) + (1 : Int))).toNat + (List.length x.1 - x.2))
 (3 : Nat) fun (i j : Nat) =>
 joinC ((0 : Nat) + (IntKind.i64.wrap ((↑x.2 : Int) + (1 : Int))).toNat) (cY x.1)
 (fun (i j : Nat) => eY (List.getD x.1 (i + x.2) Pl.dY) j) i j)
 (syms x_3) ∧ True) ∧ True) ∧ SmG x_3 ∧ condP (Pl.sigOk x_3) (false = true)
 (((0 : Int) ≤ (↑x.2 : Int) ∧ (↑x.2 : Int) < (↑(List.length x.1) : Int)) ∧ x.2 < List.length x.1 ∧ ∃ x_4 : ByteArray,
 ((List.getD x.1 x.2 Pl.dY).1 = x_4 ∧ True) ∧ x_4.size ≤ (1048576 : Nat) ∧ condP (!Pl.nameOk x_4) (false = true)
 (Exists fun (x' : Pl.Sig × Nat) =>
 (Pl.SgB (8 : Nat) (3 : Nat) x'.1 ∧ Pl.sigOk x'.1 = true ∧ x'.2 ≤ List.length x'.1) ∧ List.length x'.1 - x'.2 < List.length x.1 - x.2 ∧ ((0 : Nat) = (0 : Nat) ∧ IntKind.i64.wrap ((↑x.2 : Int) + (1 : Int)) = (↑x'.2 : Int) ∧ True) ∧ (Is (syms x.1) (syms x'.1) ∧ True) ∧ True)))) ∧ (0 : Nat) + ((0 : Nat) + x.2) ≤ (0 : Nat) + x.2 ∧ ((0 : Nat) + x.2 + (List.length x.1 - (IntKind.i64.wrap ((↑x.2 : Int) + (1 : Int))).toNat)) * (48 : Nat) ≤ (70368744177664 : Nat) ∧ ((0 : Int) ≤ IntKind.i64.wrap ((↑x.2 : Int) + (1 : Int)) ∧ IntKind.i64.wrap ((↑x.2 : Int) + (1 : Int)) ≤ (↑(List.length x.1) : Int)) ∧ ((0 : Int) ≤ (↑x.2 : Int) ∧ (↑x.2 : Int) ≤ (↑(List.length x.1) : Int)) ∧ (((0 : Nat) = (0 : Nat) ∨ (0 : Nat) < (IntKind.i64.wrap ((↑x.2 : Int) + (1 : Int))).toNat) ∧ ((0 : Nat) + (IntKind.i64.wrap ((↑x.2 : Int) + (1 : Int))).toNat) * (48 : Nat) ≤ (70368744177664 : Nat) ∧ ((0 : Nat) + ((0 : Nat) + (IntKind.i64.wrap ((↑x.2 : Int) + (1 : Int))).toNat) ≤
 (0 : Nat) + (IntKind.i64.wrap ((↑x.2 : Int) + (1 : Int))).toNat ∧ ((0 : Nat) + (IntKind.i64.wrap ((↑x.2 : Int) + (1 : Int))).toNat + (List.length x.1 - x.2)) * (48 : Nat) ≤
 (70368744177664 : Nat) ∧ (0 : Nat) + ((0 : Nat) + x.2 + (List.length x.1 - (IntKind.i64.wrap ((↑x.2 : Int) + (1 : Int))).toNat)) ≤
 (0 : Nat) + x.2 + (List.length x.1 - (IntKind.i64.wrap ((↑x.2 : Int) + (1 : Int))).toNat) ∧ ∃ x_2 : Pl.Sig,
 ((Is
 (AV.sl ((0 : Nat) + x.2 + (List.length x.1 - (IntKind.i64.wrap ((↑x.2 : Int) + (1 : Int))).toNat)) (3 : Nat)
 fun (i j : Nat) =>
 joinC ((0 : Nat) + x.2) (cY x.1)
 (fun (i j : Nat) => eY (List.getD x.1 (i + (IntKind.i64.wrap ((↑x.2 : Int) + (1 : Int))).toNat) Pl.dY) j)
 i j)
 (syms x_2) ∧ True) ∧ True) ∧ SmG x_2 ∧ condP (!Pl.sigOk x_2) (false = true)
 ((0 : Nat) + ((0 : Nat) + (IntKind.i64.wrap ((↑x.2 : Int) + (1 : Int))).toNat + (List.length x.1 - x.2)) ≤
 (0 : Nat) + (IntKind.i64.wrap ((↑x.2 : Int) + (1 : Int))).toNat + (List.length x.1 - x.2) ∧ ∃ x_3 : Pl.Sig,
 ((Is
 (AV.sl ((0 : Nat) + (IntKind.i64.wrap ((↑x.2 : Int) + (1 : Int))).toNat + (List.length x.1 - x.2))
 (3 : Nat) fun (i j : Nat) =>
 joinC ((0 : Nat) + (IntKind.i64.wrap ((↑x.2 : Int) + (1 : Int))).toNat) (cY x.1)
 (fun (i j : Nat) => eY (List.getD x.1 (i + x.2) Pl.dY) j) i j)
 (syms x_3) ∧ True) ∧ True) ∧ SmG x_3 ∧ condP (Pl.sigOk x_3) (false = true)
 (((0 : Int) ≤ (↑x.2 : Int) ∧ (↑x.2 : Int) < (↑(List.length x.1) : Int)) ∧ x.2 < List.length x.1 ∧ ∃ x_4 : ByteArray,
 ((List.getD x.1 x.2 Pl.dY).1 = x_4 ∧ True) ∧ x_4.size ≤ (1048576 : Nat) ∧ condP (!Pl.nameOk x_4) (false = true)
 (Exists fun (x' : Pl.Sig × Nat) =>
 (Pl.SgB (8 : Nat) (3 : Nat) x'.1 ∧ Pl.sigOk x'.1 = true ∧ x'.2 ≤ List.length x'.1) ∧ List.length x'.1 - x'.2 < List.length x.1 - x.2 ∧ ((0 : Nat) = (0 : Nat) ∧ IntKind.i64.wrap ((↑x.2 : Int) + (1 : Int)) = (↑x'.2 : Int) ∧ True) ∧ (Is (syms x.1) (syms x'.1) ∧ True) ∧ True)))) ∧ (0 : Nat) + ((0 : Nat) + (IntKind.i64.wrap ((↑x.2 : Int) + (1 : Int))).toNat) ≤
 (0 : Nat) + (IntKind.i64.wrap ((↑x.2 : Int) + (1 : Int))).toNat ∧ ((0 : Nat) + (IntKind.i64.wrap ((↑x.2 : Int) + (1 : Int))).toNat + (List.length x.1 - x.2)) * (48 : Nat) ≤
 (70368744177664 : Nat) ∧ (0 : Nat) + ((0 : Nat) + x.2 + (List.length x.1 - (IntKind.i64.wrap ((↑x.2 : Int) + (1 : Int))).toNat)) ≤
 (0 : Nat) + x.2 + (List.length x.1 - (IntKind.i64.wrap ((↑x.2 : Int) + (1 : Int))).toNat) ∧ ∃ x_2 : Pl.Sig,
 ((Is
 (AV.sl ((0 : Nat) + x.2 + (List.length x.1 - (IntKind.i64.wrap ((↑x.2 : Int) + (1 : Int))).toNat)) (3 : Nat)
 fun (i j : Nat) =>
 joinC ((0 : Nat) + x.2) (cY x.1)
 (fun (i j : Nat) => eY (List.getD x.1 (i + (IntKind.i64.wrap ((↑x.2 : Int) + (1 : Int))).toNat) Pl.dY) j)
 i j)
 (syms x_2) ∧ True) ∧ True) ∧ SmG x_2 ∧ condP (!Pl.sigOk x_2) (false = true)
 ((0 : Nat) + ((0 : Nat) + (IntKind.i64.wrap ((↑x.2 : Int) + (1 : Int))).toNat + (List.length x.1 - x.2)) ≤
 (0 : Nat) + (IntKind.i64.wrap ((↑x.2 : Int) + (1 : Int))).toNat + (List.length x.1 - x.2) ∧ ∃ x_3 : Pl.Sig,
 ((Is
 (AV.sl ((0 : Nat) + (IntKind.i64.wrap ((↑x.2 : Int) + (1 : Int))).toNat + (List.length x.1 - x.2))
 (3 : Nat) fun (i j : Nat) =>
 joinC ((0 : Nat) + (IntKind.i64.wrap ((↑x.2 : Int) + (1 : Int))).toNat) (cY x.1)
 (fun (i j : Nat) => eY (List.getD x.1 (i + x.2) Pl.dY) j) i j)
 (syms x_3) ∧ True) ∧ True) ∧ SmG x_3 ∧ condP (Pl.sigOk x_3) (false = true)
 (((0 : Int) ≤ (↑x.2 : Int) ∧ (↑x.2 : Int) < (↑(List.length x.1) : Int)) ∧ x.2 < List.length x.1 ∧ ∃ x_4 : ByteArray,
 ((List.getD x.1 x.2 Pl.dY).1 = x_4 ∧ True) ∧ x_4.size ≤ (1048576 : Nat) ∧ condP (!Pl.nameOk x_4) (false = true)
 (Exists fun (x' : Pl.Sig × Nat) =>
 (Pl.SgB (8 : Nat) (3 : Nat) x'.1 ∧ Pl.sigOk x'.1 = true ∧ x'.2 ≤ List.length x'.1) ∧ List.length x'.1 - x'.2 < List.length x.1 - x.2 ∧ ((0 : Nat) = (0 : Nat) ∧ IntKind.i64.wrap ((↑x.2 : Int) + (1 : Int)) = (↑x'.2 : Int) ∧ True) ∧ (Is (syms x.1) (syms x'.1) ∧ True) ∧ True)))) ∧ ((0 : Nat) = (0 : Nat) ∨ (0 : Nat) < (IntKind.i64.wrap ((↑x.2 : Int) + (1 : Int))).toNat) ∧ ((0 : Nat) + (IntKind.i64.wrap ((↑x.2 : Int) + (1 : Int))).toNat) * (48 : Nat) ≤ (70368744177664 : Nat) ∧ (0 : Nat) + ((0 : Nat) + (IntKind.i64.wrap ((↑x.2 : Int) + (1 : Int))).toNat) ≤
 (0 : Nat) + (IntKind.i64.wrap ((↑x.2 : Int) + (1 : Int))).toNat ∧ ((0 : Nat) + (IntKind.i64.wrap ((↑x.2 : Int) + (1 : Int))).toNat + (List.length x.1 - x.2)) * (48 : Nat) ≤
 (70368744177664 : Nat) ∧ (0 : Nat) + ((0 : Nat) + x.2 + (List.length x.1 - (IntKind.i64.wrap ((↑x.2 : Int) + (1 : Int))).toNat)) ≤
 (0 : Nat) + x.2 + (List.length x.1 - (IntKind.i64.wrap ((↑x.2 : Int) + (1 : Int))).toNat) ∧ ∃ x_2 : Pl.Sig,
 ((Is
 (AV.sl ((0 : Nat) + x.2 + (List.length x.1 - (IntKind.i64.wrap ((↑x.2 : Int) + (1 : Int))).toNat)) (3 : Nat)
 fun (i j : Nat) =>
 joinC ((0 : Nat) + x.2) (cY x.1)
 (fun (i j : Nat) => eY (List.getD x.1 (i + (IntKind.i64.wrap ((↑x.2 : Int) + (1 : Int))).toNat) Pl.dY) j) i
 j)
 (syms x_2) ∧ True) ∧ True) ∧ SmG x_2 ∧ condP (!Pl.sigOk x_2) (false = true)
 ((0 : Nat) + ((0 : Nat) + (IntKind.i64.wrap ((↑x.2 : Int) + (1 : Int))).toNat + (List.length x.1 - x.2)) ≤
 (0 : Nat) + (IntKind.i64.wrap ((↑x.2 : Int) + (1 : Int))).toNat + (List.length x.1 - x.2) ∧ ∃ x_3 : Pl.Sig,
 ((Is
 (AV.sl ((0 : Nat) + (IntKind.i64.wrap ((↑x.2 : Int) + (1 : Int))).toNat + (List.length x.1 - x.2))
 (3 : Nat) fun (i j : Nat) =>
 joinC ((0 : Nat) + (IntKind.i64.wrap ((↑x.2 : Int) + (1 : Int))).toNat) (cY x.1)
 (fun (i j : Nat) => eY (List.getD x.1 (i + x.2) Pl.dY) j) i j)
 (syms x_3) ∧ True) ∧ True) ∧ SmG x_3 ∧ condP (Pl.sigOk x_3) (false = true)
 (((0 : Int) ≤ (↑x.2 : Int) ∧ (↑x.2 : Int) < (↑(List.length x.1) : Int)) ∧ x.2 < List.length x.1 ∧ ∃ x_4 : ByteArray,
 ((List.getD x.1 x.2 Pl.dY).1 = x_4 ∧ True) ∧ x_4.size ≤ (1048576 : Nat) ∧ condP (!Pl.nameOk x_4) (false = true)
 (Exists fun (x' : Pl.Sig × Nat) =>
 (Pl.SgB (8 : Nat) (3 : Nat) x'.1 ∧ Pl.sigOk x'.1 = true ∧ x'.2 ≤ List.length x'.1) ∧ List.length x'.1 - x'.2 < List.length x.1 - x.2 ∧ ((0 : Nat) = (0 : Nat) ∧ IntKind.i64.wrap ((↑x.2 : Int) + (1 : Int)) = (↑x'.2 : Int) ∧ True) ∧ (Is (syms x.1) (syms x'.1) ∧ True) ∧ True)))) ∧ ((0 : Nat) = (0 : Nat) ∨ (0 : Nat) < x.2) ∧ ((0 : Nat) + x.2) * (48 : Nat) ≤ (70368744177664 : Nat) ∧ (0 : Nat) + ((0 : Nat) + x.2) ≤ (0 : Nat) + x.2 ∧ ((0 : Nat) + x.2 + (List.length x.1 - (IntKind.i64.wrap ((↑x.2 : Int) + (1 : Int))).toNat)) * (48 : Nat) ≤ (70368744177664 : Nat) ∧ ((0 : Int) ≤ IntKind.i64.wrap ((↑x.2 : Int) + (1 : Int)) ∧ IntKind.i64.wrap ((↑x.2 : Int) + (1 : Int)) ≤ (↑(List.length x.1) : Int)) ∧ ((0 : Int) ≤ (↑x.2 : Int) ∧ (↑x.2 : Int) ≤ (↑(List.length x.1) : Int)) ∧ (((0 : Nat) = (0 : Nat) ∨ (0 : Nat) < (IntKind.i64.wrap ((↑x.2 : Int) + (1 : Int))).toNat) ∧ ((0 : Nat) + (IntKind.i64.wrap ((↑x.2 : Int) + (1 : Int))).toNat) * (48 : Nat) ≤ (70368744177664 : Nat) ∧ ((0 : Nat) + ((0 : Nat) + (IntKind.i64.wrap ((↑x.2 : Int) + (1 : Int))).toNat) ≤
 (0 : Nat) + (IntKind.i64.wrap ((↑x.2 : Int) + (1 : Int))).toNat ∧ ((0 : Nat) + (IntKind.i64.wrap ((↑x.2 : Int) + (1 : Int))).toNat + (List.length x.1 - x.2)) * (48 : Nat) ≤
 (70368744177664 : Nat) ∧ (0 : Nat) + ((0 : Nat) + x.2 + (List.length x.1 - (IntKind.i64.wrap ((↑x.2 : Int) + (1 : Int))).toNat)) ≤
 (0 : Nat) + x.2 + (List.length x.1 - (IntKind.i64.wrap ((↑x.2 : Int) + (1 : Int))).toNat) ∧ ∃ x_2 : Pl.Sig,
 ((Is
 (AV.sl ((0 : Nat) + x.2 + (List.length x.1 - (IntKind.i64.wrap ((↑x.2 : Int) + (1 : Int))).toNat)) (3 : Nat)
 fun (i j : Nat) =>
 joinC ((0 : Nat) + x.2) (cY x.1)
 (fun (i j : Nat) => eY (List.getD x.1 (i + (IntKind.i64.wrap ((↑x.2 : Int) + (1 : Int))).toNat) Pl.dY) j) i
 j)
 (syms x_2) ∧ True) ∧ True) ∧ SmG x_2 ∧ condP (!Pl.sigOk x_2) (false = true)
 ((0 : Nat) + ((0 : Nat) + (IntKind.i64.wrap ((↑x.2 : Int) + (1 : Int))).toNat + (List.length x.1 - x.2)) ≤
 (0 : Nat) + (IntKind.i64.wrap ((↑x.2 : Int) + (1 : Int))).toNat + (List.length x.1 - x.2) ∧ ∃ x_3 : Pl.Sig,
 ((Is
 (AV.sl ((0 : Nat) + (IntKind.i64.wrap ((↑x.2 : Int) + (1 : Int))).toNat + (List.length x.1 - x.2))
 (3 : Nat) fun (i j : Nat) =>
 joinC ((0 : Nat) + (IntKind.i64.wrap ((↑x.2 : Int) + (1 : Int))).toNat) (cY x.1)
 (fun (i j : Nat) => eY (List.getD x.1 (i + x.2) Pl.dY) j) i j)
 (syms x_3) ∧ True) ∧ True) ∧ SmG x_3 ∧ condP (Pl.sigOk x_3) (false = true)
 (((0 : Int) ≤ (↑x.2 : Int) ∧ (↑x.2 : Int) < (↑(List.length x.1) : Int)) ∧ x.2 < List.length x.1 ∧ ∃ x_4 : ByteArray,
 ((List.getD x.1 x.2 Pl.dY).1 = x_4 ∧ True) ∧ x_4.size ≤ (1048576 : Nat) ∧ condP (!Pl.nameOk x_4) (false = true)
 (Exists fun (x' : Pl.Sig × Nat) =>
 (Pl.SgB (8 : Nat) (3 : Nat) x'.1 ∧ Pl.sigOk x'.1 = true ∧ x'.2 ≤ List.length x'.1) ∧ List.length x'.1 - x'.2 < List.length x.1 - x.2 ∧ ((0 : Nat) = (0 : Nat) ∧ IntKind.i64.wrap ((↑x.2 : Int) + (1 : Int)) = (↑x'.2 : Int) ∧ True) ∧ (Is (syms x.1) (syms x'.1) ∧ True) ∧ True)))) ∧ (0 : Nat) + ((0 : Nat) + (IntKind.i64.wrap ((↑x.2 : Int) + (1 : Int))).toNat) ≤
 (0 : Nat) + (IntKind.i64.wrap ((↑x.2 : Int) + (1 : Int))).toNat ∧ ((0 : Nat) + (IntKind.i64.wrap ((↑x.2 : Int) + (1 : Int))).toNat + (List.length x.1 - x.2)) * (48 : Nat) ≤
 (70368744177664 : Nat) ∧ (0 : Nat) + ((0 : Nat) + x.2 + (List.length x.1 - (IntKind.i64.wrap ((↑x.2 : Int) + (1 : Int))).toNat)) ≤
 (0 : Nat) + x.2 + (List.length x.1 - (IntKind.i64.wrap ((↑x.2 : Int) + (1 : Int))).toNat) ∧ ∃ x_2 : Pl.Sig,
 ((Is
 (AV.sl ((0 : Nat) + x.2 + (List.length x.1 - (IntKind.i64.wrap ((↑x.2 : Int) + (1 : Int))).toNat)) (3 : Nat)
 fun (i j : Nat) =>
 joinC ((0 : Nat) + x.2) (cY x.1)
 (fun (i j : Nat) => eY (List.getD x.1 (i + (IntKind.i64.wrap ((↑x.2 : Int) + (1 : Int))).toNat) Pl.dY) j) i
 j)
 (syms x_2) ∧ True) ∧ True) ∧ SmG x_2 ∧ condP (!Pl.sigOk x_2) (false = true)
 ((0 : Nat) + ((0 : Nat) + (IntKind.i64.wrap ((↑x.2 : Int) + (1 : Int))).toNat + (List.length x.1 - x.2)) ≤
 (0 : Nat) + (IntKind.i64.wrap ((↑x.2 : Int) + (1 : Int))).toNat + (List.length x.1 - x.2) ∧ ∃ x_3 : Pl.Sig,
 ((Is
 (AV.sl ((0 : Nat) + (IntKind.i64.wrap ((↑x.2 : Int) + (1 : Int))).toNat + (List.length x.1 - x.2))
 (3 : Nat) fun (i j : Nat) =>
 joinC ((0 : Nat) + (IntKind.i64.wrap ((↑x.2 : Int) + (1 : Int))).toNat) (cY x.1)
 (fun (i j : Nat) => eY (List.getD x.1 (i + x.2) Pl.dY) j) i j)
 (syms x_3) ∧ True) ∧ True) ∧ SmG x_3 ∧ condP (Pl.sigOk x_3) (false = true)
 (((0 : Int) ≤ (↑x.2 : Int) ∧ (↑x.2 : Int) < (↑(List.length x.1) : Int)) ∧ x.2 < List.length x.1 ∧ ∃ x_4 : ByteArray,
 ((List.getD x.1 x.2 Pl.dY).1 = x_4 ∧ True) ∧ x_4.size ≤ (1048576 : Nat) ∧ condP (!Pl.nameOk x_4) (false = true)
 (Exists fun (x' : Pl.Sig × Nat) =>
 (Pl.SgB (8 : Nat) (3 : Nat) x'.1 ∧ Pl.sigOk x'.1 = true ∧ x'.2 ≤ List.length x'.1) ∧ List.length x'.1 - x'.2 < List.length x.1 - x.2 ∧ ((0 : Nat) = (0 : Nat) ∧ IntKind.i64.wrap ((↑x.2 : Int) + (1 : Int)) = (↑x'.2 : Int) ∧ True) ∧ (Is (syms x.1) (syms x'.1) ∧ True) ∧ True)))) ∧ ((0 : Nat) = (0 : Nat) ∨ (0 : Nat) < (IntKind.i64.wrap ((↑x.2 : Int) + (1 : Int))).toNat) ∧ ((0 : Nat) + (IntKind.i64.wrap ((↑x.2 : Int) + (1 : Int))).toNat) * (48 : Nat) ≤ (70368744177664 : Nat) ∧ (0 : Nat) + ((0 : Nat) + (IntKind.i64.wrap ((↑x.2 : Int) + (1 : Int))).toNat) ≤
 (0 : Nat) + (IntKind.i64.wrap ((↑x.2 : Int) + (1 : Int))).toNat ∧ ((0 : Nat) + (IntKind.i64.wrap ((↑x.2 : Int) + (1 : Int))).toNat + (List.length x.1 - x.2)) * (48 : Nat) ≤
 (70368744177664 : Nat) ∧ (0 : Nat) + ((0 : Nat) + x.2 + (List.length x.1 - (IntKind.i64.wrap ((↑x.2 : Int) + (1 : Int))).toNat)) ≤
 (0 : Nat) + x.2 + (List.length x.1 - (IntKind.i64.wrap ((↑x.2 : Int) + (1 : Int))).toNat) ∧ ∃ x_2 : Pl.Sig,
 ((Is
 (AV.sl ((0 : Nat) + x.2 + (List.length x.1 - (IntKind.i64.wrap ((↑x.2 : Int) + (1 : Int))).toNat)) (3 : Nat)
 fun (i j : Nat) =>
 joinC ((0 : Nat) + x.2) (cY x.1)
 (fun (i j : Nat) => eY (List.getD x.1 (i + (IntKind.i64.wrap ((↑x.2 : Int) + (1 : Int))).toNat) Pl.dY) j) i j)
 (syms x_2) ∧ True) ∧ True) ∧ SmG x_2 ∧ condP (!Pl.sigOk x_2) (false = true)
 ((0 : Nat) + ((0 : Nat) + (IntKind.i64.wrap ((↑x.2 : Int) + (1 : Int))).toNat + (List.length x.1 - x.2)) ≤
 (0 : Nat) + (IntKind.i64.wrap ((↑x.2 : Int) + (1 : Int))).toNat + (List.length x.1 - x.2) ∧ ∃ x_3 : Pl.Sig,
 ((Is
 (AV.sl ((0 : Nat) + (IntKind.i64.wrap ((↑x.2 : Int) + (1 : Int))).toNat + (List.length x.1 - x.2))
 (3 : Nat) fun (i j : Nat) =>
 joinC ((0 : Nat) + (IntKind.i64.wrap ((↑x.2 : Int) + (1 : Int))).toNat) (cY x.1)
 (fun (i j : Nat) => eY (List.getD x.1 (i + x.2) Pl.dY) j) i j)
 (syms x_3) ∧ True) ∧ True) ∧ SmG x_3 ∧ condP (Pl.sigOk x_3) (false = true)
 (((0 : Int) ≤ (↑x.2 : Int) ∧ (↑x.2 : Int) < (↑(List.length x.1) : Int)) ∧ x.2 < List.length x.1 ∧ ∃ x_4 : ByteArray,
 ((List.getD x.1 x.2 Pl.dY).1 = x_4 ∧ True) ∧ x_4.size ≤ (1048576 : Nat) ∧ condP (!Pl.nameOk x_4) (false = true)
 (Exists fun (x' : Pl.Sig × Nat) =>
 (Pl.SgB (8 : Nat) (3 : Nat) x'.1 ∧ Pl.sigOk x'.1 = true ∧ x'.2 ≤ List.length x'.1) ∧ List.length x'.1 - x'.2 < List.length x.1 - x.2 ∧ ((0 : Nat) = (0 : Nat) ∧ IntKind.i64.wrap ((↑x.2 : Int) + (1 : Int)) = (↑x'.2 : Int) ∧ True) ∧ (Is (syms x.1) (syms x'.1) ∧ True) ∧ True))))
 (true = true))))) = Goal Try.prog [K_DrawSigOk, K_iSigOk, K_sSigOk, K_iNameOk] (A_ySigLess) K_ySigLess.1 K_ySigLess.2 (b) := by kernel_rfl

end Cg

/-
  What is left to show of each function's code, printed by a program: Sig. No condition.
-/
set_option maxRecDepth 100000
set_option linter.unusedVariables false
namespace Cg
open Go Go.Proofs
theorem vc_sNameOk (s : ByteArray) : ((∃ x : Nat, (x ≤ s.size ∧ (Pl.bs s).all Pl.lower = (List.drop x (Pl.bs s)).all Pl.lower) ∧ (s = s ∧ (0 : Int) = (↑x : Int) ∧ True) ∧ True) ∧ ∀ (x : Nat),
 x ≤ s.size ∧ (Pl.bs s).all Pl.lower = (List.drop x (Pl.bs s)).all Pl.lower →
 condP (decide ((↑x : Int) < (↑s.size : Int)))
 (((0 : Int) ≤ (↑x : Int) ∧ (↑x : Int) < (↑s.size : Int)) ∧ condP (decide ((↑(s.data.getD x (0 : UInt8)).toNat : Int) < (97 : Int))) (false = Pl.nameOk s)
 (((0 : Int) ≤ (↑x : Int) ∧ (↑x : Int) < (↑s.size : Int)) ∧ condP (decide ((↑(s.data.getD x (0 : UInt8)).toNat : Int) > (122 : Int))) (false = Pl.nameOk s)
 (Exists fun (x' : Nat) =>
 (x' ≤ s.size ∧ (Pl.bs s).all Pl.lower = (List.drop x' (Pl.bs s)).all Pl.lower) ∧ s.size - x' < s.size - x ∧ (s = s ∧ IntKind.i64.wrap ((↑x : Int) + (1 : Int)) = (↑x' : Int) ∧ True) ∧ True)))
 (condP (decide ((↑s.size : Int) ≥ (1 : Int))) (decide ((↑s.size : Int) ≤ (2 : Int)) = Pl.nameOk s) (false = Pl.nameOk s))) = Goal Try.prog [] (A_sNameOk s) K_sNameOk.1 K_sNameOk.2 (s) := by kernel_rfl

theorem vc_iNameOk (s : ByteArray) : (∃ x : Int × Int × Int,
 ((↑s.size : Int) = x.1 ∧ (1 : Int) = x.2.1 ∧ (2 : Int) = x.2.2 ∧ True) ∧ True ∧ condP (!Pl.withinI x.1 x.2.1 x.2.2) (false = Pl.nameOk s)
 ((∃ x : Nat, (x ≤ s.size ∧ (Pl.bs s).all Pl.lower = (List.drop x (Pl.bs s)).all Pl.lower) ∧ (s = s ∧ (↑s.size : Int) = (↑s.size : Int) ∧ (0 : Int) = (↑x : Int) ∧ True) ∧ True) ∧ ∀ (x : Nat),
 x ≤ s.size ∧ (Pl.bs s).all Pl.lower = (List.drop x (Pl.bs s)).all Pl.lower →
 condP (decide ((↑x : Int) < (↑s.size : Int)))
 (((0 : Int) ≤ (↑x : Int) ∧ (↑x : Int) < (↑s.size : Int)) ∧ condP (decide ((↑(s.data.getD x (0 : UInt8)).toNat : Int) < (97 : Int))) (false = Pl.nameOk s)
 (((0 : Int) ≤ (↑x : Int) ∧ (↑x : Int) < (↑s.size : Int)) ∧ condP (decide ((↑(s.data.getD x (0 : UInt8)).toNat : Int) > (122 : Int))) (false = Pl.nameOk s)
 (Exists fun (x' : Nat) =>
 (x' ≤ s.size ∧ (Pl.bs s).all Pl.lower = (List.drop x' (Pl.bs s)).all Pl.lower) ∧ s.size - x' < s.size - x ∧ (s = s ∧ (↑s.size : Int) = (↑s.size : Int) ∧ IntKind.i64.wrap ((↑x : Int) + (1 : Int)) = (↑x' : Int) ∧ True) ∧ True)))
 (true = Pl.nameOk s))) = Goal Try.prog [K_within] (A_iNameOk s) K_iNameOk.1 K_iNameOk.2 (s) := by kernel_rfl

theorem vc_l4Sort (x : Int) : (condP (x == (0 : Int)) (true = Pl.isSort x) ((x == (1 : Int)) = Pl.isSort x)) = Goal Try.prog [] ([]) K_l4Sort.1 K_l4Sort.2 (x) := by kernel_rfl

theorem vc_isSort (x : Int) : (condP (x == (0 : Int)) (true = Pl.isSort x) ((x == (1 : Int)) = Pl.isSort x)) = Goal Try.prog [] ([]) K_isSort.1 K_isSort.2 (x) := by kernel_rfl

theorem vc_symok1 (x : Int) : (∃ x_1 : Int, (x = x_1 ∧ True) ∧ True ∧ (!Pl.isSort x_1) = !Pl.isSort x) = Goal Try.prog [K_isSort] ([]) K_symok1.1 K_symok1.2 (x) := by kernel_rfl

theorem vc_IndexSort (l : List Int) : ((∃ x : Nat,
 (x ≤ l.length ∧ Pl.idx (fun (y : Int) => !Pl.isSort y) l =
 if Pl.idx (fun (y : Int) => !Pl.isSort y) (List.drop x l) < (0 : Int) then (-1 : Int) else Pl.idx (fun (y : Int) => !Pl.isSort y) (List.drop x l) + (↑x : Int)) ∧ (Is (ints l) (ints l) ∧ True ∧ (↑l.length : Int) = (↑l.length : Int) ∧ (0 : Int) = (↑x : Int) ∧ True) ∧ True) ∧ ∀ (x : Nat),
 (x ≤ l.length ∧ Pl.idx (fun (y : Int) => !Pl.isSort y) l =
 if Pl.idx (fun (y : Int) => !Pl.isSort y) (List.drop x l) < (0 : Int) then (-1 : Int) else Pl.idx (fun (y : Int) => !Pl.isSort y) (List.drop x l) + (↑x : Int)) →
 condP (decide ((↑x : Int) < (↑l.length : Int)))
 (((0 : Int) ≤ (↑x : Int) ∧ (↑x : Int) < (↑l.length : Int)) ∧ x < l.length ∧ ∃ x_1 : Int,
 (l.getD x (0 : Int) = x_1 ∧ True) ∧ True ∧ condP (!Pl.isSort x_1) ((↑x : Int) = Pl.idx (fun (y : Int) => !Pl.isSort y) l)
 (Exists fun (x' : Nat) =>
 (x' ≤ l.length ∧ Pl.idx (fun (y : Int) => !Pl.isSort y) l =
 if Pl.idx (fun (y : Int) => !Pl.isSort y) (List.drop x' l) < (0 : Int) then (-1 : Int) else Pl.idx (fun (y : Int) => !Pl.isSort y) (List.drop x' l) + (↑x' : Int)) ∧ l.length - x' < l.length - x ∧ (Is (ints l) (ints l) ∧ True ∧ (↑l.length : Int) = (↑l.length : Int) ∧ IntKind.i64.wrap ((↑x : Int) + (1 : Int)) = (↑x' : Int) ∧ True) ∧ True))
 ((-1 : Int) = Pl.idx (fun (y : Int) => !Pl.isSort y) l)) = Goal Try.prog [K_symok1] (A_IndexSort l) K_IndexSort.1 K_IndexSort.2 (l) := by kernel_rfl

theorem vc_ContainsSort (l : List Int) : (∃ x : List Int, (Is (ints l) (ints x) ∧ True ∧ True) ∧ Sz x ∧ decide (Pl.idx (fun (y : Int) => !Pl.isSort y) x ≥ (0 : Int)) = l.any fun (y : Int) => !Pl.isSort y) = Goal Try.prog [K_IndexSort] ([]) K_ContainsSort.1 K_ContainsSort.2 (l) := by kernel_rfl

theorem vc_symok (x : Pl.Sym) : (∃ x_1 : ByteArray,
 (x.1 = x_1 ∧ True) ∧ x_1.size ≤ (1048576 : Nat) ∧ condP (Pl.nameOk x_1)
 (condP (decide ((↑x.2.1.length : Int) ≤ (2 : Int)))
 (∃ x_2 : Int,
 (x.2.2 = x_2 ∧ True) ∧ True ∧ condP (Pl.isSort x_2) (∃ x_3 : List Int, (Is (ints x.2.1) (ints x_3) ∧ True ∧ True) ∧ Sz x_3 ∧ (!x_3.any fun (y : Int) => !Pl.isSort y) = Pl.symOk x)
 (false = Pl.symOk x))
 (false = Pl.symOk x))
 (false = Pl.symOk x)) = Goal Try.prog [K_iNameOk, K_isSort, K_ContainsSort] ([]) K_symok.1 K_symok.2 (x) := by kernel_rfl

theorem vc_sSigOk (s : Pl.Sig) : ((∃ x : Nat,
 (x ≤ List.length s ∧ Pl.sigL Option.none s = Pl.sigL (Pl.prevS s x) (List.drop x s)) ∧ ((0 : Nat) = (0 : Nat) ∧ (0 : Int) = (↑x : Int) ∧ True) ∧ (Is (syms s) (syms s) ∧ True) ∧ True) ∧ ∀ (x : Nat),
 x ≤ List.length s ∧ Pl.sigL Option.none s = Pl.sigL (Pl.prevS s x) (List.drop x s) →
 condP (decide ((↑x : Int) < (↑(List.length s) : Int)))
 (((0 : Int) ≤ (↑x : Int) ∧ (↑x : Int) < (↑(List.length s) : Int)) ∧ x < List.length s ∧ ∃ x_1 : ByteArray,
 ((List.getD s x Pl.dY).1 = x_1 ∧ True) ∧ x_1.size ≤ (1048576 : Nat) ∧ condP (!Pl.nameOk x_1) (false = Pl.sigOk s)
 (condP (decide ((↑(List.getD s x Pl.dY).2.1.length : Int) > (2 : Int))) (false = Pl.sigOk s)
 (∃ x_2 : Int,
 ((List.getD s x Pl.dY).2.2 = x_2 ∧ True) ∧ True ∧ condP (!Pl.isSort x_2) (false = Pl.sigOk s)
 (condP (decide ((↑x : Int) > (0 : Int)))
 (((0 : Int) ≤ IntKind.i64.wrap ((↑x : Int) - (1 : Int)) ∧ IntKind.i64.wrap ((↑x : Int) - (1 : Int)) < (↑(List.length s) : Int)) ∧ (IntKind.i64.wrap ((↑x : Int) - (1 : Int))).toNat < List.length s ∧ condP (!Op.bytesLess (List.getD s (IntKind.i64.wrap ((↑x : Int) - (1 : Int))).toNat Pl.dY).1.toList (List.getD s x Pl.dY).1.toList)
 (false = Pl.sigOk s)
 ((∃ x_3 : Nat,
 (x < List.length s ∧ x_3 ≤ (List.getD s x Pl.dY).2.1.length ∧ (List.getD s x Pl.dY).2.1.all Pl.isSort = (List.drop x_3 (List.getD s x Pl.dY).2.1).all Pl.isSort ∧ (Pl.nameOk (List.getD s x Pl.dY).1 && decide ((List.getD s x Pl.dY).2.1.length ≤ (2 : Nat)) &&
 Pl.isSort (List.getD s x Pl.dY).2.2) =
 true ∧ Pl.before (Pl.prevS s x) (List.getD s x Pl.dY).1 = true) ∧ ((0 : Nat) = (0 : Nat) ∧ (↑x : Int) = (↑x : Int) ∧ (0 : Nat) = (0 : Nat) ∧ (0 : Int) = (↑x_3 : Int) ∧ True) ∧ (Is (syms s) (syms s) ∧ True) ∧ ((List.getD s x Pl.dY).1 = (List.getD s x Pl.dY).1 ∧ Is (ints (List.getD s x Pl.dY).2.1) (ints (List.getD s x Pl.dY).2.1) ∧ (List.getD s x Pl.dY).2.2 = (List.getD s x Pl.dY).2.2 ∧ True) ∧ True) ∧ ∀ (x_3 : Nat),
 x < List.length s ∧ x_3 ≤ (List.getD s x Pl.dY).2.1.length ∧ (List.getD s x Pl.dY).2.1.all Pl.isSort = (List.drop x_3 (List.getD s x Pl.dY).2.1).all Pl.isSort ∧ (Pl.nameOk (List.getD s x Pl.dY).1 && decide ((List.getD s x Pl.dY).2.1.length ≤ (2 : Nat)) &&
 Pl.isSort (List.getD s x Pl.dY).2.2) =
 true ∧ Pl.before (Pl.prevS s x) (List.getD s x Pl.dY).1 = true →
 condP (decide ((↑x_3 : Int) < (↑(List.getD s x Pl.dY).2.1.length : Int)))
 (((0 : Int) ≤ (↑x_3 : Int) ∧ (↑x_3 : Int) < (↑(List.getD s x Pl.dY).2.1.length : Int)) ∧ x_3 < (List.getD s x Pl.dY).2.1.length ∧ ∃ x_4 : Int,
 ((List.getD s x Pl.dY).2.1.getD x_3 (0 : Int) = x_4 ∧ True) ∧ True ∧ condP (!Pl.isSort x_4) (false = Pl.sigOk s)
 (Exists fun (x' : Nat) =>
 (x < List.length s ∧ x' ≤ (List.getD s x Pl.dY).2.1.length ∧ (List.getD s x Pl.dY).2.1.all Pl.isSort = (List.drop x' (List.getD s x Pl.dY).2.1).all Pl.isSort ∧ (Pl.nameOk (List.getD s x Pl.dY).1 && decide ((List.getD s x Pl.dY).2.1.length ≤ (2 : Nat)) &&
 Pl.isSort (List.getD s x Pl.dY).2.2) =
 true ∧ Pl.before (Pl.prevS s x) (List.getD s x Pl.dY).1 = true) ∧ (List.getD s x Pl.dY).2.1.length - x' < (List.getD s x Pl.dY).2.1.length - x_3 ∧ ((0 : Nat) = (0 : Nat) ∧ (↑x : Int) = (↑x : Int) ∧ (0 : Nat) = (0 : Nat) ∧ IntKind.i64.wrap ((↑x_3 : Int) + (1 : Int)) = (↑x' : Int) ∧ True) ∧ (Is (syms s) (syms s) ∧ True) ∧ ((List.getD s x Pl.dY).1 = (List.getD s x Pl.dY).1 ∧ Is (ints (List.getD s x Pl.dY).2.1) (ints (List.getD s x Pl.dY).2.1) ∧ (List.getD s x Pl.dY).2.2 = (List.getD s x Pl.dY).2.2 ∧ True) ∧ True))
 (Exists fun (x' : Nat) =>
 (x' ≤ List.length s ∧ Pl.sigL Option.none s = Pl.sigL (Pl.prevS s x') (List.drop x' s)) ∧ List.length s - x' < List.length s - x ∧ ((0 : Nat) = (0 : Nat) ∧ IntKind.i64.wrap ((↑x : Int) + (1 : Int)) = (↑x' : Int) ∧ True) ∧ (Is (syms s) (syms s) ∧ True) ∧ True)))
 ((∃ x_3 : Nat,
 (x < List.length s ∧ x_3 ≤ (List.getD s x Pl.dY).2.1.length ∧ (List.getD s x Pl.dY).2.1.all Pl.isSort = (List.drop x_3 (List.getD s x Pl.dY).2.1).all Pl.isSort ∧ (Pl.nameOk (List.getD s x Pl.dY).1 && decide ((List.getD s x Pl.dY).2.1.length ≤ (2 : Nat)) && Pl.isSort (List.getD s x Pl.dY).2.2) =
 true ∧ Pl.before (Pl.prevS s x) (List.getD s x Pl.dY).1 = true) ∧ ((0 : Nat) = (0 : Nat) ∧ (↑x : Int) = (↑x : Int) ∧ (0 : Nat) = (0 : Nat) ∧ (0 : Int) = (↑x_3 : Int) ∧ True) ∧ (Is (syms s) (syms s) ∧ True) ∧ ((List.getD s x Pl.dY).1 = (List.getD s x Pl.dY).1 ∧ Is (ints (List.getD s x Pl.dY).2.1) (ints (List.getD s x Pl.dY).2.1) ∧ (List.getD s x Pl.dY).2.2 = (List.getD s x Pl.dY).2.2 ∧ True) ∧ True) ∧ ∀ (x_3 : Nat),
 x < List.length s ∧ x_3 ≤ (List.getD s x Pl.dY).2.1.length ∧ (List.getD s x Pl.dY).2.1.all Pl.isSort = (List.drop x_3 (List.getD s x Pl.dY).2.1).all Pl.isSort ∧ (Pl.nameOk (List.getD s x Pl.dY).1 && decide ((List.getD s x Pl.dY).2.1.length ≤ (2 : Nat)) && Pl.isSort (List.getD s x Pl.dY).2.2) =
 true ∧ Pl.before (Pl.prevS s x) (List.getD s x Pl.dY).1 = true →
 condP (decide ((↑x_3 : Int) < (↑(List.getD s x Pl.dY).2.1.length : Int)))
 (((0 : Int) ≤ (↑x_3 : Int) ∧ (↑x_3 : Int) < (↑(List.getD s x Pl.dY).2.1.length : Int)) ∧ x_3 < (List.getD s x Pl.dY).2.1.length ∧ ∃ x_4 : Int,
 ((List.getD s x Pl.dY).2.1.getD x_3 (0 : Int) = x_4 ∧ True) ∧ True ∧ condP (!Pl.isSort x_4) (false = Pl.sigOk s)
 (Exists fun (x' : Nat) =>
 (x < List.length s ∧ x' ≤ (List.getD s x Pl.dY).2.1.length ∧ (List.getD s x Pl.dY).2.1.all Pl.isSort = (List.drop x' (List.getD s x Pl.dY).2.1).all Pl.isSort ∧ (Pl.nameOk (List.getD s x Pl.dY).1 && decide ((List.getD s x Pl.dY).2.1.length ≤ (2 : Nat)) &&
 Pl.isSort (List.getD s x Pl.dY).2.2) =
 true ∧ Pl.before (Pl.prevS s x) (List.getD s x Pl.dY).1 = true) ∧ (List.getD s x Pl.dY).2.1.length - x' < (List.getD s x Pl.dY).2.1.length - x_3 ∧ ((0 : Nat) = (0 : Nat) ∧ (↑x : Int) = (↑x : Int) ∧ (0 : Nat) = (0 : Nat) ∧ IntKind.i64.wrap ((↑x_3 : Int) + (1 : Int)) = (↑x' : Int) ∧ True) ∧ (Is (syms s) (syms s) ∧ True) ∧ ((List.getD s x Pl.dY).1 = (List.getD s x Pl.dY).1 ∧ Is (ints (List.getD s x Pl.dY).2.1) (ints (List.getD s x Pl.dY).2.1) ∧ (List.getD s x Pl.dY).2.2 = (List.getD s x Pl.dY).2.2 ∧ True) ∧ True))
 (Exists fun (x' : Nat) =>
 (x' ≤ List.length s ∧ Pl.sigL Option.none s = Pl.sigL (Pl.prevS s x') (List.drop x' s)) ∧ List.length s - x' < List.length s - x ∧ ((0 : Nat) = (0 : Nat) ∧ IntKind.i64.wrap ((↑x : Int) + (1 : Int)) = (↑x' : Int) ∧ True) ∧ (Is (syms s) (syms s) ∧ True) ∧ True))))))
 (decide ((↑(List.length s) : Int) ≤ (7 : Int)) = Pl.sigOk s)) = Goal Try.prog [K_sNameOk, K_l4Sort] (A_sSigOk s) K_sSigOk.1 K_sSigOk.2 (s) := by kernel_rfl

theorem vc_iSigOk (s : Pl.Sig) : ((∃ x : Nat,
 (x ≤ List.length s ∧ Pl.sigL Option.none s = Pl.sigL (Pl.prevS s x) (List.drop x s)) ∧ ((0 : Nat) = (0 : Nat) ∧ Is (syms s) (syms s) ∧ (↑(List.length s) : Int) = (↑(List.length s) : Int) ∧ (0 : Int) = (↑x : Int) ∧ True) ∧ (Is (syms s) (syms s) ∧ True) ∧ True) ∧ ∀ (x : Nat),
 x ≤ List.length s ∧ Pl.sigL Option.none s = Pl.sigL (Pl.prevS s x) (List.drop x s) →
 condP (decide ((↑x : Int) < (↑(List.length s) : Int)))
 (((0 : Int) ≤ (↑x : Int) ∧ (↑x : Int) < (↑(List.length s) : Int)) ∧ x < List.length s ∧ ∃ x_1 : Pl.Sym,
 (((List.getD s x Pl.dY).1 = x_1.1 ∧ Is (ints (List.getD s x Pl.dY).2.1) (ints x_1.2.1) ∧ (List.getD s x Pl.dY).2.2 = x_1.2.2 ∧ True) ∧ True) ∧ (x_1.1.size ≤ (1048576 : Nat) ∧ Sz x_1.2.1) ∧ condP (!Pl.symOk x_1) (false = Pl.sigOk s)
 (condP (decide ((↑x : Int) > (0 : Int)))
 (((0 : Int) ≤ IntKind.i64.wrap ((↑x : Int) - (1 : Int)) ∧ IntKind.i64.wrap ((↑x : Int) - (1 : Int)) < (↑(List.length s) : Int)) ∧ (IntKind.i64.wrap ((↑x : Int) - (1 : Int))).toNat < List.length s ∧ condP (!Op.bytesLess (List.getD s (IntKind.i64.wrap ((↑x : Int) - (1 : Int))).toNat Pl.dY).1.toList (List.getD s x Pl.dY).1.toList) (false = Pl.sigOk s)
 (Exists fun (x' : Nat) =>
 (x' ≤ List.length s ∧ Pl.sigL Option.none s = Pl.sigL (Pl.prevS s x') (List.drop x' s)) ∧ List.length s - x' < List.length s - x ∧ ((0 : Nat) = (0 : Nat) ∧ Is (syms s) (syms s) ∧ (↑(List.length s) : Int) = (↑(List.length s) : Int) ∧ IntKind.i64.wrap ((↑x : Int) + (1 : Int)) = (↑x' : Int) ∧ True) ∧ (Is (syms s) (syms s) ∧ True) ∧ True))
 (Exists fun (x' : Nat) =>
 (x' ≤ List.length s ∧ Pl.sigL Option.none s = Pl.sigL (Pl.prevS s x') (List.drop x' s)) ∧ List.length s - x' < List.length s - x ∧ ((0 : Nat) = (0 : Nat) ∧ Is (syms s) (syms s) ∧ (↑(List.length s) : Int) = (↑(List.length s) : Int) ∧ IntKind.i64.wrap ((↑x : Int) + (1 : Int)) = (↑x' : Int) ∧ True) ∧ (Is (syms s) (syms s) ∧ True) ∧ True)))
 (decide ((↑(List.length s) : Int) ≤ (7 : Int)) = Pl.sigOk s)) = Goal Try.prog [K_symok] (A_iSigOk s) K_iSigOk.1 K_iSigOk.2 (s) := by kernel_rfl

end Cg

/-
  What is left to show of each function's code, printed by a program: Rows. No condition.
-/
set_option maxRecDepth 100000
set_option linter.unusedVariables false
namespace Cg
open Go Go.Proofs
end Cg

/-
  What is left to show of each function's code, printed by a program: Clause. No condition.
-/
set_option maxRecDepth 100000
set_option linter.unusedVariables false
namespace Cg
open Go Go.Proofs
theorem vc_within (x y z : Int) : (condP (decide (y ≤ x)) (decide (x ≤ z) = Pl.withinI x y z) (false = Pl.withinI x y z)) = Goal Try.prog [] ([]) K_within.1 K_within.2 ((x, y, z)) := by kernel_rfl

end Cg

/-
  The codes' contracts: clauses. No condition.
-/
set_option linter.unusedVariables false
set_option linter.unusedSimpArgs false
set_option maxRecDepth 100000
namespace Cg
open Go Go.Proofs

theorem hm : Try.prog.follows .mixedOrders = true := by kernel_rfl

theorem k_within : SoundC Try.prog K_within.1 K_within.2 := sound_of hm CtxOK.nil (fun _ => []) (by kernel_rfl) fun ((x, y, z) : Int × Int × Int) _ => cast (vc_within x y z) (by
  simp [Pl.withinI]
  omega)

end Cg

/-
  The plain law of clauses: both ways to tell one give the same. No condition.
-/
set_option linter.unusedVariables false
set_option linter.unusedSimpArgs false
namespace Pl
open Go

end Pl


/-
  The codes' contracts: rows of rows, values of marks. No condition.
-/
set_option linter.unusedVariables false
set_option linter.unusedSimpArgs false
set_option maxRecDepth 100000
namespace Cg
open Go Go.Proofs

theorem idx_lt {α : Type} (p : α → Bool) : ∀ l : List α, -1 ≤ Pl.idx p l
  | [] => by simp [Pl.idx]
  | x :: l => by have := idx_lt p l; simp only [Pl.idx]; split <;> (try split) <;> omega

/-- One round of slices.IndexFunc. -/
theorem idx_step {α : Type} (d : α) (p : α → Bool) {l : List α} {k : Nat} (hk : k < l.length) (he : Pl.idx p l = if Pl.idx p (l.drop k) < 0 then -1 else Pl.idx p (l.drop k) + k) :
    (p (l.getD k d) = true → (k : Int) = Pl.idx p l) ∧ (p (l.getD k d) = false → Pl.idx p l = if Pl.idx p (l.drop (k + 1)) < 0 then -1 else Pl.idx p (l.drop (k + 1)) + ((k + 1 : Nat) : Int)) := by
  rw [drop_get d hk] at he
  have := idx_lt p (l.drop (k + 1))
  refine ⟨fun h => ?_, fun h => ?_⟩
  · rw [he]; simp only [Pl.idx, h, if_true]; simp
  · rw [he]
    simp only [Pl.idx, h, Bool.false_eq_true, if_false]
    split
    · simp
    · split <;> omega
theorem idx_init {α : Type} (p : α → Bool) (l : List α) : Pl.idx p l = if Pl.idx p (l.drop 0) < 0 then -1 else Pl.idx p (l.drop 0) + ((0 : Nat) : Int) := by
  have := idx_lt p l
  simp only [List.drop_zero]
  split <;> omega
theorem idx_end {α : Type} (p : α → Bool) {l : List α} {k : Nat} (hk : l.length ≤ k) (he : Pl.idx p l = if Pl.idx p (l.drop k) < 0 then -1 else Pl.idx p (l.drop k) + k) : -1 = Pl.idx p l := by
  rw [he, drop_end (by omega)]; simp [Pl.idx]

theorem idx_any {α : Type} (p : α → Bool) : ∀ l : List α, decide (Pl.idx p l ≥ 0) = l.any p
  | [] => by simp [Pl.idx]
  | x :: l => by
    have h := idx_any p l
    have := idx_lt p l
    simp only [Pl.idx, List.any_cons]
    by_cases hp : p x = true
    · simp [hp]
    · simp only [hp, Bool.false_eq_true, if_false, Bool.false_or]
      rw [← h]
      by_cases hq : Pl.idx p l < 0
      · rw [if_pos hq, decide_eq_false (by omega), decide_eq_false (by omega)]
      · rw [if_neg hq, decide_eq_true (by omega), decide_eq_true (by omega)]

end Cg

/-
  The codes' contracts: words. No condition.
-/
set_option linter.unusedVariables false
set_option linter.unusedSimpArgs false
set_option maxRecDepth 100000
namespace Pl
open Go Cg
theorem bs_len (s : ByteArray) : (bs s).length = s.size := rfl
theorem data_getD (s : ByteArray) (k : Nat) : s.data.getD k 0 = (bs s).getD k 0 := by
  unfold bs
  rw [Array.getD_eq_getD_getElem?, List.getD_eq_getElem?_getD, Array.getElem?_toList]
theorem data_getE (s : ByteArray) (k : Nat) : s.data[k]?.getD 0 = (bs s).getD k 0 := by
  rw [← data_getD, Array.getD_eq_getD_getElem?]
theorem sumN_mem {α : Type} (f : α → Nat) {x : α} : ∀ {l : List α}, x ∈ l → f x ≤ sumN f l
  | y :: r, h => by
    simp only [sumN]
    cases List.mem_cons.1 h with
    | inl e => subst e; omega
    | inr e => have := sumN_mem f e; omega
end Pl
namespace Cg
open Go Go.Proofs Pl

theorem SmG.mem {s : Sig} (h : SmG s) {x : Sym} (hx : x ∈ s) : x.1.size ≤ 1048576 ∧ x.2.1.length ≤ 1048576 := by
  have h1 : s.length + sumN costY s ≤ 1048576 := h
  have h2 := sumN_mem costY hx
  have h3 : costY x = x.1.size + x.2.1.length := rfl
  omega
theorem SmG.len {s : Sig} (h : SmG s) : s.length ≤ 1048576 := by
  have h1 : s.length + sumN costY s ≤ 1048576 := h
  omega

theorem name_step {s : ByteArray} {k : Nat} (hk : k < s.size) (he : (bs s).all lower = ((bs s).drop k).all lower) :
    ((((bs s).getD k 0).toNat : Int) < 97 → nameOk s = false) ∧ (122 < (((bs s).getD k 0).toNat : Int) → nameOk s = false) ∧ (97 ≤ (((bs s).getD k 0).toNat : Int) → (((bs s).getD k 0).toNat : Int) ≤ 122 → (bs s).all lower = ((bs s).drop (k + 1)).all lower) := by
  rw [drop_get 0 (by rw [bs_len]; exact hk), List.all_cons] at he
  have no : lower ((bs s).getD k 0) = false → nameOk s = false := fun h => by
    unfold nameOk; rw [he, h]; simp
  refine ⟨fun h => no (by simp [lower, h, -List.getD_eq_getElem?_getD]), fun h => no (by simp [lower, h, -List.getD_eq_getElem?_getD]), fun h1 h2 => ?_⟩
  have : lower ((bs s).getD k 0) = true := by
    unfold lower; rw [decide_eq_false (by omega), decide_eq_false (by omega)]; rfl
  rw [he, this, Bool.true_and]

theorem k_sNameOk : SoundC Try.prog K_sNameOk.1 K_sNameOk.2 := sound_of hm CtxOK.nil A_sNameOk (by kernel_rfl) fun (s : ByteArray) hl => cast (vc_sNameOk s) (by
  replace hl : s.size ≤ 1048576 := hl
  simp [-List.getD_eq_getElem?_getD, -List.mem_cons, -Bool.forall_bool, -Bool.exists_bool, and_assoc, peta, tl_inj, ex_1, ex_2, ex_3, ex_4, ex_5, ex_6, ex_7, ex_8, ex_9, ey_2, ey_3, ey_4, ey_5, ey_6, ey_7, ey_8, ey_9]
  simp only [data_getE]
  refine ⟨⟨0, by simp, by simp, rfl⟩, fun k hk he => ⟨fun hlt => ?_, fun hge => ?_⟩⟩
  · obtain ⟨h1, h2, h3⟩ := name_step hlt he
    exact ⟨hlt, h1, fun h4 => ⟨hlt, h2, fun h5 => ⟨k + 1, hlt, h3 h4 h5, by omega, wrap_small (by omega) (by omega)⟩⟩⟩
  · rw [drop_end (by rw [bs_len]; omega)] at he
    unfold nameOk
    rw [he]
    refine ⟨fun h => ?_, fun h => ?_⟩
    · rw [decide_eq_true (by omega : 1 ≤ s.size)]; simp; omega
    · rw [decide_eq_false (by omega : ¬ 1 ≤ s.size)]; rfl)

theorem k_iNameOk : SoundC Try.prog K_iNameOk.1 K_iNameOk.2 := sound_of hm (CtxOK.nil.and k_within) A_iNameOk (by kernel_rfl) fun (s : ByteArray) hl => cast (vc_iNameOk s) (by
  replace hl : s.size ≤ 1048576 := hl
  simp [-List.getD_eq_getElem?_getD, -List.mem_cons, -Bool.forall_bool, -Bool.exists_bool, and_assoc, peta, tl_inj, ex_1, ex_2, ex_3, ex_4, ex_5, ex_6, ex_7, ex_8, ex_9, ey_2, ey_3, ey_4, ey_5, ey_6, ey_7, ey_8, ey_9]
  simp only [data_getE]
  refine ⟨fun h => ?_, fun h => ?_⟩
  · simp only [withinI, Bool.and_eq_false_iff, decide_eq_false_iff_not] at h
    unfold nameOk
    rcases h with h | h
    · rw [decide_eq_false (by omega : ¬ 1 ≤ s.size)]; rfl
    · rw [decide_eq_false (by omega : ¬ s.size ≤ 2)]; simp
  · simp only [withinI, Bool.and_eq_true, decide_eq_true_eq] at h
    refine ⟨⟨0, by simp, by simp, rfl⟩, fun k hk he => ⟨fun hlt => ?_, fun hge => ?_⟩⟩
    · obtain ⟨h1, h2, h3⟩ := name_step hlt he
      exact ⟨hlt, h1, fun h4 => ⟨hlt, h2, fun h5 => ⟨k + 1, hlt, h3 h4 h5, by omega, wrap_small (by omega) (by omega)⟩⟩⟩
    · rw [drop_end (by rw [bs_len]; omega)] at he
      unfold nameOk
      rw [he, decide_eq_true (by omega : 1 ≤ s.size), decide_eq_true (by omega : s.size ≤ 2)]
      rfl)

theorem k_l4Sort : SoundC Try.prog K_l4Sort.1 K_l4Sort.2 := sound_of hm CtxOK.nil (fun _ => []) (by kernel_rfl) fun (x : Int) _ => cast (vc_l4Sort x) (by
  simp [-List.getD_eq_getElem?_getD, -List.mem_cons, -Bool.forall_bool, -Bool.exists_bool, and_assoc, peta, tl_inj, ex_1, ex_2, ex_3, ex_4, ex_5, ex_6, ex_7, ex_8, ex_9, ey_2, ey_3, ey_4, ey_5, ey_6, ey_7, ey_8, ey_9]
  exact ⟨fun h => by simp [isSort, h], fun h => by simp [isSort, h, Bool.beq_eq_decide_eq]⟩)
theorem k_isSort : SoundC Try.prog K_isSort.1 K_isSort.2 := sound_of hm CtxOK.nil (fun _ => []) (by kernel_rfl) fun (x : Int) _ => cast (vc_isSort x) (by
  simp [-List.getD_eq_getElem?_getD, -List.mem_cons, -Bool.forall_bool, -Bool.exists_bool, and_assoc, peta, tl_inj, ex_1, ex_2, ex_3, ex_4, ex_5, ex_6, ex_7, ex_8, ex_9, ey_2, ey_3, ey_4, ey_5, ey_6, ey_7, ey_8, ey_9]
  exact ⟨fun h => by simp [isSort, h], fun h => by simp [isSort, h, Bool.beq_eq_decide_eq]⟩)
theorem k_symok1 : SoundC Try.prog K_symok1.1 K_symok1.2 := sound_of hm (CtxOK.nil.and k_isSort) (fun _ => []) (by kernel_rfl) fun (x : Int) _ => cast (vc_symok1 x) (by
  simp [-List.getD_eq_getElem?_getD, -List.mem_cons, -Bool.forall_bool, -Bool.exists_bool, and_assoc, peta, tl_inj, ex_1, ex_2, ex_3, ex_4, ex_5, ex_6, ex_7, ex_8, ex_9, ey_2, ey_3, ey_4, ey_5, ey_6, ey_7, ey_8, ey_9])
theorem k_IndexSort : SoundC Try.prog K_IndexSort.1 K_IndexSort.2 := sound_of hm (CtxOK.nil.and k_symok1) A_IndexSort (by kernel_rfl) fun (l : List Int) hl => cast (vc_IndexSort l) (by
  replace hl : Sz l := hl
  simp [-List.getD_eq_getElem?_getD, -List.mem_cons, -Bool.forall_bool, -Bool.exists_bool, and_assoc, peta, tl_inj, ex_1, ex_2, ex_3, ex_4, ex_5, ex_6, ex_7, ex_8, ex_9, ey_2, ey_3, ey_4, ey_5, ey_6, ey_7, ey_8, ey_9]
  exact ⟨⟨0, by simp, idx_init _ _, rfl⟩, fun k hk he => ⟨fun hlt => ⟨hlt, fun h => (idx_step 0 _ hlt he).1 (by simp [h, -List.getD_eq_getElem?_getD]), fun h => ⟨k + 1, hlt, (idx_step 0 _ hlt he).2 (by simp [h, -List.getD_eq_getElem?_getD]), by omega, wrap_succ hlt hl⟩⟩, fun hge => idx_end _ hge he⟩⟩)
theorem k_ContainsSort : SoundC Try.prog K_ContainsSort.1 K_ContainsSort.2 := sound_of hm (CtxOK.nil.and k_IndexSort) (fun _ => []) (by kernel_rfl) fun (l : List Int) hl => cast (vc_ContainsSort l) (by
  replace hl : Sz l := hl
  simp only [idx_any]
  simp [-List.getD_eq_getElem?_getD, -List.mem_cons, -Bool.forall_bool, -Bool.exists_bool, and_assoc, peta, tl_inj, ex_1, ex_2, ex_3, ex_4, ex_5, ex_6, ex_7, ex_8, ex_9, ey_2, ey_3, ey_4, ey_5, ey_6, ey_7, ey_8, ey_9]
  exact hl)
theorem all_any {α : Type} (p : α → Bool) (l : List α) : l.all p = !(l.any fun y => !p y) := by
  induction l with
  | nil => rfl
  | cons x r ih => simp only [List.all_cons, List.any_cons, ih]; cases p x <;> rfl

theorem k_symok : SoundC Try.prog K_symok.1 K_symok.2 := sound_of hm (((CtxOK.nil.and k_ContainsSort).and k_isSort).and k_iNameOk) (fun _ => []) (by kernel_rfl) fun (x : Sym) hl => cast (vc_symok x) (by
  obtain ⟨h1, h2⟩ : x.1.size ≤ 1048576 ∧ Sz x.2.1 := hl
  simp [-List.getD_eq_getElem?_getD, -List.mem_cons, -Bool.forall_bool, -Bool.exists_bool, and_assoc, peta, tl_inj, ex_1, ex_2, ex_3, ex_4, ex_5, ex_6, ex_7, ex_8, ex_9, ey_2, ey_3, ey_4, ey_5, ey_6, ey_7, ey_8, ey_9]
  refine ⟨h1, fun h3 => ⟨fun h4 => ⟨fun h5 => ⟨h2, ?_⟩, fun h5 => by simp [symOk, h5]⟩, fun h4 => ?_⟩, fun h3 => by simp [symOk, h3]⟩
  · unfold symOk
    rw [h3, h5, decide_eq_true (by omega : x.2.1.length ≤ 2), all_any]; simp
  · unfold symOk
    rw [decide_eq_false (by omega : ¬ x.2.1.length ≤ 2)]; simp)

theorem sig_step {s : Sig} {k : Nat} (hk : k < s.length) (he : sigL none s = sigL (prevS s k) (s.drop k)) :
    (symOk (s.getD k dY) = false → sigOk s = false) ∧ (before (prevS s k) (s.getD k dY).1 = false → sigOk s = false) ∧ (symOk (s.getD k dY) = true → before (prevS s k) (s.getD k dY).1 = true → sigL none s = sigL (prevS s (k + 1)) (s.drop (k + 1))) := by
  rw [drop_get dY hk] at he
  simp only [sigL] at he
  refine ⟨fun h => ?_, fun h => ?_, fun h1 h2 => ?_⟩
  · unfold sigOk; rw [he, h]; simp
  · unfold sigOk; rw [he, h]; simp
  · rw [he, h1, h2]
    simp [prevS, -List.getD_eq_getElem?_getD]
theorem sig_end {s : Sig} {k : Nat} (hk : s.length ≤ k) (he : sigL none s = sigL (prevS s k) (s.drop k)) : sigOk s = decide ((s.length : Int) ≤ 7) := by
  rw [drop_end (by omega)] at he
  unfold sigOk
  rw [he]
  simp only [sigL, Bool.true_and]
  congr 1
  simp only [eq_iff_iff]; omega

theorem sSigOk_inner {s : Sig} (hl : SmG s) {k : Nat} (hlt : k < s.length) (he : sigL none s = sigL (prevS s k) (s.drop k)) (h1 : nameOk (s.getD k dY).1 = true) (h2 : (s.getD k dY).2.1.length ≤ 2) (h3 : isSort (s.getD k dY).2.2 = true) (h4 : before (prevS s k) (s.getD k dY).1 = true) :
    k < s.length ∧
      (∃ x_1, x_1 ≤ (s.getD k dY).2.1.length ∧ (s.getD k dY).2.1.all isSort = ((s.getD k dY).2.1.drop x_1).all isSort ∧ nameOk (s.getD k dY).1 = true ∧ (s.getD k dY).2.1.length ≤ 2 ∧ isSort (s.getD k dY).2.2 = true ∧ before (prevS s k) (s.getD k dY).1 = true ∧ (0 : Int) = (x_1 : Int)) ∧
      ∀ (j : Nat), k < s.length → j ≤ (s.getD k dY).2.1.length → (s.getD k dY).2.1.all isSort = ((s.getD k dY).2.1.drop j).all isSort → nameOk (s.getD k dY).1 = true → (s.getD k dY).2.1.length ≤ 2 → isSort (s.getD k dY).2.2 = true → before (prevS s k) (s.getD k dY).1 = true →
        (j < (s.getD k dY).2.1.length → j < (s.getD k dY).2.1.length ∧ (isSort ((s.getD k dY).2.1.getD j 0) = false → sigOk s = false) ∧
          (isSort ((s.getD k dY).2.1.getD j 0) = true → k < s.length ∧ ∃ x_1, x_1 ≤ (s.getD k dY).2.1.length ∧ (s.getD k dY).2.1.all isSort = ((s.getD k dY).2.1.drop x_1).all isSort ∧ nameOk (s.getD k dY).1 = true ∧ (s.getD k dY).2.1.length ≤ 2 ∧ isSort (s.getD k dY).2.2 = true ∧ before (prevS s k) (s.getD k dY).1 = true ∧ (s.getD k dY).2.1.length - x_1 < (s.getD k dY).2.1.length - j ∧ IntKind.i64.wrap ((j : Int) + 1) = (x_1 : Int))) ∧
        ((s.getD k dY).2.1.length ≤ j → ∃ x', x' ≤ s.length ∧ sigL none s = sigL (prevS s x') (s.drop x') ∧ s.length - x' < s.length - k ∧ IntKind.i64.wrap ((k : Int) + 1) = (x' : Int)) := by
  have hlen := hl.len
  obtain ⟨e1, e2, e3⟩ := sig_step hlt he
  refine ⟨hlt, ⟨0, by simp, by simp, h1, h2, h3, h4, rfl⟩, fun j _ hj hj2 _ _ _ _ => ⟨fun hjl => ⟨hjl, fun h => ?_, fun h => ⟨hlt, j + 1, hjl, ?_, h1, h2, h3, h4, by omega, wrap_small (by omega) (by omega)⟩⟩, fun hge => ⟨k + 1, hlt, e3 ?_ h4, by omega, wrap_small (by omega) (by omega)⟩⟩⟩
  · rw [drop_get 0 hjl, List.all_cons, h, Bool.false_and] at hj2
    exact e1 (by unfold symOk; rw [hj2]; simp)
  · rw [hj2, drop_get 0 hjl, List.all_cons, h, Bool.true_and]
  · rw [drop_end (by omega)] at hj2
    unfold symOk
    rw [hj2, h1, h3, decide_eq_true h2]; rfl

theorem k_sSigOk : SoundC Try.prog K_sSigOk.1 K_sSigOk.2 := sound_of hm ((CtxOK.nil.and k_l4Sort).and k_sNameOk) A_sSigOk (by kernel_rfl) fun (s : Sig) hl => cast (vc_sSigOk s) (by
  replace hl : SmG s := hl
  simp [-List.getD_eq_getElem?_getD, -List.mem_cons, -Bool.forall_bool, -Bool.exists_bool, and_assoc, peta, tl_inj, ex_1, ex_2, ex_3, ex_4, ex_5, ex_6, ex_7, ex_8, ex_9, ey_2, ey_3, ey_4, ey_5, ey_6, ey_7, ey_8, ey_9]
  have hlen := hl.len
  refine ⟨⟨0, by simp, by simp [prevS], rfl⟩, fun k hk he => ⟨fun hlt => ?_, fun hge => (sig_end hge he).symm⟩⟩
  obtain ⟨m1, m2⟩ := hl.mem (getD_mem dY hlt)
  obtain ⟨e1, e2, e3⟩ := sig_step hlt he
  have inner : nameOk (s.getD k dY).1 = true → (s.getD k dY).2.1.length ≤ 2 → isSort (s.getD k dY).2.2 = true → before (prevS s k) (s.getD k dY).1 = true → _ := sSigOk_inner hl hlt he
  refine ⟨hlt, m1, fun h => e1 (by unfold symOk; rw [h]; rfl), fun h1 => ⟨fun h => e1 ?_, fun h2 => ⟨fun h => e1 (by unfold symOk; rw [h]; simp), fun h3 => ⟨fun h4 => ?_, fun h4 => inner h1 (by omega) h3 (by rw [h4]; rfl)⟩⟩⟩⟩
  · unfold symOk; rw [decide_eq_false (by omega : ¬ (s.getD k dY).2.1.length ≤ 2)]; simp
  · rw [wrap_small (by omega) (by omega)]
    have e : ((k : Int) - 1).toNat = k - 1 := by omega
    rw [e]
    have hb : before (prevS s k) (s.getD k dY).1 = Op.bytesLess (s.getD (k - 1) dY).1.toList (s.getD k dY).1.toList := by
      unfold prevS; rw [if_neg (by omega)]; rfl
    exact ⟨by omega, by omega, by omega, fun h => e2 (by rw [hb, h]), fun h => inner h1 (by omega) h3 (by rw [hb, h])⟩)

theorem k_iSigOk : SoundC Try.prog K_iSigOk.1 K_iSigOk.2 := sound_of hm (CtxOK.nil.and k_symok) A_iSigOk (by kernel_rfl) fun (s : Sig) hl => cast (vc_iSigOk s) (by
  replace hl : SmG s := hl
  simp [-List.getD_eq_getElem?_getD, -List.mem_cons, -Bool.forall_bool, -Bool.exists_bool, and_assoc, peta, tl_inj, ex_1, ex_2, ex_3, ex_4, ex_5, ex_6, ex_7, ex_8, ex_9, ey_2, ey_3, ey_4, ey_5, ey_6, ey_7, ey_8, ey_9]
  have hlen := hl.len
  refine ⟨⟨0, by simp, by simp [prevS], rfl⟩, fun k hk he => ⟨fun hlt => ?_, fun hge => (sig_end hge he).symm⟩⟩
  obtain ⟨m1, m2⟩ := hl.mem (getD_mem dY hlt)
  obtain ⟨e1, e2, e3⟩ := sig_step hlt he
  refine ⟨hlt, m1, by omega, e1, fun h1 => ⟨fun h4 => ?_, fun h4 => ⟨k + 1, hlt, e3 h1 (by rw [h4]; rfl), by omega, wrap_small (by omega) (by omega)⟩⟩⟩
  rw [wrap_small (by omega) (by omega)]
  have e : ((k : Int) - 1).toNat = k - 1 := by omega
  rw [e]
  have hb : before (prevS s k) (s.getD k dY).1 = Op.bytesLess (s.getD (k - 1) dY).1.toList (s.getD k dY).1.toList := by
    unfold prevS; rw [if_neg (by omega)]; rfl
  exact ⟨by omega, by omega, by omega, fun h => e2 (by rw [hb, h]), fun h => ⟨k + 1, hlt, e3 h1 (by rw [hb, h]), by omega, wrap_small (by omega) (by omega)⟩⟩)

end Cg

/-
  What is left to show of each function's code, printed by a program: Mtm. No condition.
-/
set_option maxRecDepth 100000
set_option linter.unusedVariables false
namespace Cg
open Go Go.Proofs
end Cg

/-
  What is left to show of each function's code, printed by a program: Mok. No condition.
-/
set_option maxRecDepth 100000
set_option linter.unusedVariables false
namespace Cg
open Go Go.Proofs
end Cg

/-
  What is left to show of each function's code, printed by a program: Model. No condition.
-/
set_option maxRecDepth 100000
set_option linter.unusedVariables false
namespace Cg
open Go Go.Proofs
end Cg

/-
  What is left to show of each function's code, printed by a program: Tsort. No condition.
-/
set_option maxRecDepth 100000
set_option linter.unusedVariables false
namespace Cg
open Go Go.Proofs
end Cg

/-
  What is left to show of each function's code, printed by a program: Sort. No condition.
-/
set_option maxRecDepth 100000
set_option linter.unusedVariables false
namespace Cg
open Go Go.Proofs
end Cg

/-
  The codes' contracts: terms. No condition.
-/
set_option linter.unusedVariables false
set_option linter.unusedSimpArgs false
set_option maxRecDepth 100000
set_option maxHeartbeats 4000000
namespace Pl
open Go Cg
end Pl
namespace Cg
open Go Go.Proofs Pl
theorem SmTs.mem {l : List Tm} (h : SmTs l) {t : Tm} (ht : t ∈ l) : SmT t := by
  have := costT_mem ht
  have h1 : l.length + costTs l ≤ 1048576 := h
  show costT t ≤ 1048576
  omega
theorem SmTs.len {l : List Tm} (h : SmTs l) : l.length ≤ 1048576 := by
  have h1 : l.length + costTs l ≤ 1048576 := h
  omega
theorem SmT.kids {v : ByteArray} {ks : List Tm} (h : SmT (.mk v ks)) : SmTs ks := by
  have h1 : costT (.mk v ks) ≤ 1048576 := h
  rw [costT_eq] at h1
  simp only [Tree.val, Tree.kids] at h1
  show ks.length + costTs ks ≤ 1048576
  omega

end Cg

/-
  The codes' contracts: the sorts of terms. No condition.
-/
set_option linter.unusedVariables false
set_option linter.unusedSimpArgs false
set_option maxRecDepth 100000
set_option maxHeartbeats 1000000
namespace Pl
open Go Cg
theorem sumN_le {α : Type} {f : α → Nat} {b : Nat} : ∀ {l : List α}, (∀ x ∈ l, f x ≤ b) → sumN f l ≤ l.length * b
  | [], _ => Nat.zero_le _
  | x :: r, h => by
    simp only [sumN, List.length_cons, Nat.add_mul, Nat.one_mul]
    have := h x List.mem_cons_self
    have := sumN_le (l := r) fun y hy => h y (List.mem_cons_of_mem _ hy)
    omega
theorem sigL_mem : ∀ {s : Sig} {p : Option ByteArray}, sigL p s = true → ∀ y ∈ s, symOk y = true
  | x :: r, p, h, y, hy => by
    simp only [sigL, Bool.and_eq_true] at h
    cases List.mem_cons.1 hy with
    | inl e => subst e; exact h.1.1
    | inr e => exact sigL_mem h.2 y e
theorem sigOk_mem {s : Sig} (h : sigOk s = true) {y : Sym} (hy : y ∈ s) : symOk y = true := by
  simp only [sigOk, Bool.and_eq_true] at h
  exact sigL_mem h.1 y hy
end Pl
namespace Cg
open Go Go.Proofs Pl

end Cg

/-
  The codes' contracts: models: sizes, copies, equality. No condition.
-/
set_option linter.unusedVariables false
set_option linter.unusedSimpArgs false
set_option maxRecDepth 100000
set_option maxHeartbeats 1000000
namespace Cg
open Go Go.Proofs Pl
theorem SmM.mem {m : Mdl} (h : SmM m) {x : Rw} (hx : x ∈ m) : x.1.size ≤ 1048576 ∧ x.2.1.length ≤ 1048576 := by
  have h1 : m.length + sumN costR m ≤ 1048576 := h
  have h2 := sumN_mem costR hx
  have h3 : costR x = x.1.size + x.2.1.length := rfl
  omega
theorem SmM.len {m : Mdl} (h : SmM m) : m.length ≤ 1048576 := by
  have h1 : m.length + sumN costR m ≤ 1048576 := h
  omega

end Cg

/-
  The codes' contracts: valid models. No condition.
-/
set_option linter.unusedVariables false
set_option linter.unusedSimpArgs false
set_option maxRecDepth 100000
set_option maxHeartbeats 1000000
namespace Pl
open Go Cg
theorem bl_asymm : ∀ {x y : List UInt8}, Op.bytesLess x y = true → Op.bytesLess y x = false
  | [], [], _ => rfl
  | _ :: _, [], h => by cases h
  | [], _ :: _, _ => rfl
  | a :: x, b :: y, h => by
    simp only [Op.bytesLess, Bool.or_eq_true, decide_eq_true_eq, Bool.and_eq_true, beq_iff_eq] at h
    simp only [Op.bytesLess, Bool.or_eq_false_iff, decide_eq_false_iff_not, Bool.and_eq_false_iff]
    rcases h with h | ⟨h, h1⟩
    · exact ⟨fun h2 => by simp only [UInt8.lt_iff_toNat_lt] at h h2; omega, .inl (by simp only [beq_eq_false_iff_ne]; intro e; subst e; simp only [UInt8.lt_iff_toNat_lt] at h; omega)⟩
    · subst h
      exact ⟨fun h2 => by simp only [UInt8.lt_iff_toNat_lt] at h2; omega, .inr (bl_asymm h1)⟩
theorem bl_irrefl (x : List UInt8) : Op.bytesLess x x = false := by
  cases h : Op.bytesLess x x with
  | false => rfl
  | true => rw [bl_asymm h] at h; cases h
end Pl
namespace Cg
open Go Go.Proofs Pl

end Cg

/-
  The codes' contracts: the values of terms. No condition.
-/
set_option linter.unusedVariables false
set_option linter.unusedSimpArgs false
set_option maxRecDepth 100000
set_option maxHeartbeats 1000000
namespace Pl
open Go Cg
theorem bl_trans : ∀ {x y z : List UInt8}, Op.bytesLess x y = true → Op.bytesLess y z = true → Op.bytesLess x z = true
  | [], [], _, h, _ => by cases h
  | [], _ :: _, [], _, h => by cases h
  | [], _ :: _, _ :: _, _, _ => rfl
  | _ :: _, [], _, h, _ => by cases h
  | _ :: _, _ :: _, [], _, h => by cases h
  | a :: x, b :: y, c :: z, h, k => by
    simp only [Op.bytesLess, Bool.or_eq_true, decide_eq_true_eq, Bool.and_eq_true, beq_iff_eq, UInt8.lt_iff_toNat_lt] at h k ⊢
    rcases h with h | ⟨h, h1⟩ <;> rcases k with k | ⟨k, k1⟩
    · exact .inl (by omega)
    · subst k; exact .inl h
    · subst h; exact .inl k
    · subst h; subst k; exact .inr ⟨rfl, bl_trans h1 k1⟩
theorem sLess_trans {a b c : ByteArray} (h1 : sLess a b = true) (h2 : sLess b c = true) : sLess a c = true := bl_trans h1 h2
theorem sLess_irrefl (a : ByteArray) : sLess a a = false := bl_irrefl _
end Pl
namespace Cg
open Go Go.Proofs Pl

end Cg

/-
  Plain laws of words: without one of them they are right still, with one twice they are not. No condition.
-/
set_option linter.unusedVariables false
set_option linter.unusedSimpArgs false
namespace Pl
open Go Cg
theorem sigL_less {p : Option ByteArray} {x : ByteArray} {xs : List Sym} (hp : before p x = true) (h : sigL (some x) xs = true) : sigL p xs = true := by
  cases xs with
  | nil => rfl
  | cons y ys =>
    simp only [sigL, Bool.and_eq_true] at h ⊢
    refine ⟨⟨h.1.1, ?_⟩, h.2⟩
    cases p with
    | none => rfl
    | some q => exact sLess_trans hp h.1.2
theorem sigL_del : ∀ (s : List Sym) (p : Option ByteArray) (k : Nat), sigL p s = true → sigL p (s.take k ++ s.drop (k + 1)) = true
  | [], p, k, _ => by simp [sigL]
  | x :: xs, p, 0, h => by
    simp only [sigL, Bool.and_eq_true] at h
    exact sigL_less h.1.2 h.2
  | x :: xs, p, k + 1, h => by
    simp only [sigL, Bool.and_eq_true] at h
    show sigL p (x :: (xs.take k ++ xs.drop (k + 1))) = true
    simp only [sigL, Bool.and_eq_true]
    exact ⟨h.1, sigL_del xs (some x.1) k h.2⟩
theorem sigL_twice : ∀ (s : List Sym) (p : Option ByteArray) (k : Nat), k < s.length → sigL p (s.take (k + 1) ++ s.drop k) = false
  | [], p, k, h => by cases h
  | x :: xs, p, 0, h => by
    show sigL p (x :: x :: xs) = false
    have : before (some x.1) x.1 = false := sLess_irrefl _
    simp only [sigL, this, Bool.and_false, Bool.false_and]
  | x :: xs, p, k + 1, h => by
    show sigL p (x :: (xs.take (k + 1) ++ xs.drop k)) = false
    have := sigL_twice xs (some x.1) k (by simpa using h)
    simp only [sigL, this, Bool.and_false]
theorem sigOk_del {s : Sig} (h : sigOk s = true) (k : Nat) : sigOk (s.take k ++ s.drop (k + 1)) = true := by
  simp only [sigOk, Bool.and_eq_true, decide_eq_true_eq] at h ⊢
  exact ⟨sigL_del s none k h.1, Nat.le_trans (by simp; omega) h.2⟩
theorem sigOk_twice {s : Sig} {k : Nat} (h : k < s.length) : sigOk (s.take (k + 1) ++ s.drop k) = false := by
  unfold sigOk
  rw [sigL_twice s none k h]; rfl
theorem sigOk_name {s : Sig} (h : sigOk s = true) {y : Sym} (hy : y ∈ s) : nameOk y.1 = true := by
  have := sigOk_mem h hy
  simp only [symOk, Bool.and_eq_true] at this
  exact this.1.1.1
end Pl

/-
  What is left to show of each function's code, printed by a program: Mds. No condition.
-/
set_option maxRecDepth 100000
set_option linter.unusedVariables false
namespace Cg
open Go Go.Proofs
theorem vc_of (b : List Int) (p : Int) (l : List ByteArray) : (∃ x : List Int × Int × Int,
 Rd (1099511627776 : Int) x.1 x.2.1 ∧ (((0 : Nat) = (0 : Nat) ∧ (↑l.length : Int) = x.2.2 ∧ True) ∧ (Is (byts b) (byts x.1) ∧ p = x.2.1 ∧ True) ∧ True) ∧ ∀ (y : Int),
 ((1 : Int) ≤ x.2.2 → (0 : Int) ≤ y ∧ y < x.2.2) ∧ (x.2.2 < (1 : Int) → y = (0 : Int)) →
 ((0 : Int) ≤ y ∧ y < (↑l.length : Int)) ∧ y.toNat < l.length ∧ ∃ y_1 : ByteArray, y_1 ∈ l ∧ (l.getD y.toNat ByteArray.empty = y_1 ∧ True) ∧ (Is (byts x.1) (byts b) ∧ x.2.1 + (1 : Int) = p + (1 : Int) ∧ True) ∧ True) = Goal Try.prog [K_pick] ([]) K_of.1 K_of.2 ((b, p, l)) := by kernel_rfl

theorem vc_l4Base (k : Int) : (condP (k == (0 : Int))
 (Is
 (AV.lit (5 : Nat) (3 : Nat)
 (rowsCell
 [[st (ByteArray.mk #[(97 : UInt8)]), AV.lit (0 : Nat) (1 : Nat) fun (x x_1 : Nat) => AV.any, i64 (0 : Int)],
 [st (ByteArray.mk #[(98 : UInt8)]), AV.lit (0 : Nat) (1 : Nat) fun (x x_1 : Nat) => AV.any, i64 (0 : Int)],
 [st (ByteArray.mk #[(99 : UInt8)]), AV.lit (0 : Nat) (1 : Nat) fun (x x_1 : Nat) => AV.any, i64 (0 : Int)],
 [st (ByteArray.mk #[(102 : UInt8)]), AV.lit (1 : Nat) (1 : Nat) (rowsCell [[i64 (0 : Int)]]), i64 (0 : Int)],
 [st (ByteArray.mk #[(103 : UInt8)]), AV.lit (2 : Nat) (1 : Nat) (rowsCell [[i64 (0 : Int)], [i64 (0 : Int)]]), i64 (0 : Int)]]))
 (syms (Pl.base k)) ∧ True)
 (condP (k == (1 : Int))
 (Is
 (AV.lit (5 : Nat) (3 : Nat)
 (rowsCell
 [[st (ByteArray.mk #[(97 : UInt8)]), AV.lit (0 : Nat) (1 : Nat) fun (x x_1 : Nat) => AV.any, i64 (0 : Int)],
 [st (ByteArray.mk #[(98 : UInt8)]), AV.lit (0 : Nat) (1 : Nat) fun (x x_1 : Nat) => AV.any, i64 (0 : Int)],
 [st (ByteArray.mk #[(104 : UInt8)]), AV.lit (1 : Nat) (1 : Nat) (rowsCell [[i64 (0 : Int)]]), i64 (1 : Int)],
 [st (ByteArray.mk #[(120 : UInt8)]), AV.lit (0 : Nat) (1 : Nat) fun (x x_1 : Nat) => AV.any, i64 (1 : Int)],
 [st (ByteArray.mk #[(121 : UInt8)]), AV.lit (0 : Nat) (1 : Nat) fun (x x_1 : Nat) => AV.any, i64 (1 : Int)]]))
 (syms (Pl.base k)) ∧ True)
 (condP (k == (2 : Int))
 (Is
 (AV.lit (4 : Nat) (3 : Nat)
 (rowsCell
 [[st (ByteArray.mk #[(107 : UInt8)]), AV.lit (1 : Nat) (1 : Nat) (rowsCell [[i64 (1 : Int)]]), i64 (1 : Int)],
 [st (ByteArray.mk #[(120 : UInt8)]), AV.lit (0 : Nat) (1 : Nat) fun (x x_1 : Nat) => AV.any, i64 (1 : Int)],
 [st (ByteArray.mk #[(121 : UInt8)]), AV.lit (0 : Nat) (1 : Nat) fun (x x_1 : Nat) => AV.any, i64 (1 : Int)],
 [st (ByteArray.mk #[(122 : UInt8)]), AV.lit (0 : Nat) (1 : Nat) fun (x x_1 : Nat) => AV.any, i64 (1 : Int)]]))
 (syms (Pl.base k)) ∧ True)
 (condP (k == (3 : Int))
 (Is
 (AV.lit (5 : Nat) (3 : Nat)
 (rowsCell
 [[st (ByteArray.mk #[(97 : UInt8)]), AV.lit (0 : Nat) (1 : Nat) fun (x x_1 : Nat) => AV.any, i64 (0 : Int)],
 [st (ByteArray.mk #[(117 : UInt8)]), AV.lit (1 : Nat) (1 : Nat) (rowsCell [[i64 (1 : Int)]]), i64 (0 : Int)],
 [st (ByteArray.mk #[(118 : UInt8)]), AV.lit (2 : Nat) (1 : Nat) (rowsCell [[i64 (1 : Int)], [i64 (0 : Int)]]), i64 (1 : Int)],
 [st (ByteArray.mk #[(120 : UInt8)]), AV.lit (0 : Nat) (1 : Nat) fun (x x_1 : Nat) => AV.any, i64 (1 : Int)],
 [st (ByteArray.mk #[(121 : UInt8)]), AV.lit (0 : Nat) (1 : Nat) fun (x x_1 : Nat) => AV.any, i64 (1 : Int)]]))
 (syms (Pl.base k)) ∧ True)
 (Is (AV.lit (0 : Nat) (3 : Nat) (rowsCell [])) (syms (Pl.base k)) ∧ True))))) = Goal Try.prog [] ([]) K_l4Base.1 K_l4Base.2 (k) := by kernel_rfl

theorem vc_l4Sig (b : List Int) (p : Int) : (∃ x : List Int × Int × List Int,
 (Rd (1099511627776 : Int) x.1 x.2.1 ∧ x.2.2 ≠ [] ∧ Sz x.2.2) ∧ (((0 : Nat) = (0 : Nat) ∧ Is
 (AV.lit (8 : Nat) (1 : Nat)
 (rowsCell [[i64 (0 : Int)], [i64 (0 : Int)], [i64 (1 : Int)], [i64 (1 : Int)], [i64 (2 : Int)], [i64 (3 : Int)], [i64 (1 : Int)], [i64 (4 : Int)]]))
 (ints x.2.2) ∧ True) ∧ (Is (byts b) (byts x.1) ∧ p = x.2.1 ∧ True) ∧ True) ∧ ∀ (y : Int),
 y ∈ x.2.2 →
 ∃ x_1 : Int,
 (y = x_1 ∧ True) ∧ True ∧ ∃ y : Pl.Sig,
 Pl.SgB (5 : Nat) (2 : Nat) y ∧ ((Is (syms (Pl.base x_1)) (syms y) ∧ True) ∧ True) ∧ (Is (byts x.1) (byts b) ∧ x.2.1 + (1 : Int) = p + (1 : Int) ∧ True) ∧ True) = Goal Try.prog [K_num, K_l4Base] ([]) K_l4Sig.1 K_l4Sig.2 ((b, p)) := by kernel_rfl

theorem vc_l4Bent (b : List Int) (p : Int) (s : Pl.Sig) (n k : Nat) : ((∃ x : Nat,
 x ≤ List.length s ∧ ((0 : Nat) = (0 : Nat) ∧ (0 : Nat) = (0 : Nat) ∧ (0 : Nat) = (0 : Nat) ∧ (0 : Nat) = (0 : Nat) ∧ (0 : Int) = (↑x : Int) ∧ True) ∧ (Is (byts b) (byts b) ∧ p = p ∧ True) ∧ (Is (syms s) (syms s) ∧ True) ∧ (Is (AV.lit (0 : Nat) (1 : Nat) fun (x x_1 : Nat) => AV.any) nilA ∧ True) ∧ (((0 : Nat) = (0 : Nat) ∧ (0 : Nat) = (0 : Nat) ∧ x = (0 : Nat)) ∧ True) ∧ (List.take x s).length = (0 : Nat) ∧ True) ∧ ∀ (x : Nat),
 x ≤ List.length s →
 condP (decide ((↑x : Int) < (↑(List.length s) : Int)))
 (((0 : Int) ≤ (↑x : Int) ∧ (↑x : Int) < (↑(List.length s) : Int)) ∧ x < List.length s ∧ ((0 : Nat) = (0 : Nat) ∨ (0 : Nat) < (List.getD s x Pl.dY).2.1.length) ∧ ((0 : Nat) + (List.getD s x Pl.dY).2.1.length) * (8 : Nat) ≤ (70368744177664 : Nat) ∧ x = (List.take x s).length ∧ (0 : Nat) + ((0 : Nat) + (List.getD s x Pl.dY).2.1.length) ≤ (0 : Nat) + (List.getD s x Pl.dY).2.1.length ∧ (x + (1 : Nat)) * (48 : Nat) ≤ (70368744177664 : Nat) ∧ Exists fun (x' : Nat) =>
 x' ≤ List.length s ∧ List.length s - x' < List.length s - x ∧ ((0 : Nat) = (0 : Nat) ∧ (0 : Nat) = (0 : Nat) ∧ (0 : Nat) = (0 : Nat) ∧ (0 : Nat) = (0 : Nat) ∧ IntKind.i64.wrap ((↑x : Int) + (1 : Int)) = (↑x' : Int) ∧ True) ∧ (Is (byts b) (byts b) ∧ p = p ∧ True) ∧ (Is (syms s) (syms s) ∧ True) ∧ (Is (AV.lit (0 : Nat) (1 : Nat) fun (x x_1 : Nat) => AV.any) nilA ∧ True) ∧ (((0 : Nat) = (0 : Nat) ∧ x + (1 : Nat) = x') ∧ True) ∧ IsO
 (AObj.xarr (x + (1 : Nat)) (3 : Nat)
 (joinC x (cY (List.take x s))
 (rowsCell
 [[st (List.getD s x Pl.dY).1, AV.sl ((0 : Nat) + (List.getD s x Pl.dY).2.1.length) (1 : Nat) (cI (List.getD s x Pl.dY).2.1),
 i64 (List.getD s x Pl.dY).2.2]])))
 (xrY (List.take x' s)) ∧ True)
 (condP ((↑x : Int) == (0 : Int))
 (∃ y : Pl.Sig × Int,
 (Pl.SgB (n + (1 : Nat)) (k + (1 : Nat)) y.1 ∧ p ≤ y.2 ∧ y.2 ≤ p + (100 : Int)) ∧ (0 : Nat) + x ≤ (List.take x s).length ∧ ((Is (AV.sl x (3 : Nat) (cY (List.take x s))) (syms y.1) ∧ True) ∧ True) ∧ (Is (byts b) (byts b) ∧ p = y.2 ∧ True) ∧ True)
 (∃ x_1 : List Int × Int × Int,
 Rd (1099511627776 : Int) x_1.1 x_1.2.1 ∧ (((0 : Nat) = (0 : Nat) ∧ (8 : Int) = x_1.2.2 ∧ True) ∧ (Is (byts b) (byts x_1.1) ∧ p = x_1.2.1 ∧ True) ∧ True) ∧ ∀ (y : Int),
 ((1 : Int) ≤ x_1.2.2 → (0 : Int) ≤ y ∧ y < x_1.2.2) ∧ (x_1.2.2 < (1 : Int) → y = (0 : Int)) →
 condP (decide (y > (0 : Int)))
 (∃ y : Pl.Sig × Int,
 (Pl.SgB (n + (1 : Nat)) (k + (1 : Nat)) y.1 ∧ p ≤ y.2 ∧ y.2 ≤ p + (100 : Int)) ∧ (0 : Nat) + x ≤ (List.take x s).length ∧ ((Is (AV.sl x (3 : Nat) (cY (List.take x s))) (syms y.1) ∧ True) ∧ True) ∧ (Is (byts x_1.1) (byts b) ∧ x_1.2.1 + (1 : Int) = y.2 ∧ True) ∧ True)
 (∃ x_2 : List Int × Int × Int,
 Rd (1099511627776 : Int) x_2.1 x_2.2.1 ∧ (((0 : Nat) = (0 : Nat) ∧ (↑x : Int) = x_2.2.2 ∧ True) ∧ (Is (byts x_1.1) (byts x_2.1) ∧ x_1.2.1 + (1 : Int) = x_2.2.1 ∧ True) ∧ True) ∧ ∀ (y : Int),
 ((1 : Int) ≤ x_2.2.2 → (0 : Int) ≤ y ∧ y < x_2.2.2) ∧ (x_2.2.2 < (1 : Int) → y = (0 : Int)) →
 ∃ x_3 : List Int × Int × Int,
 Rd (1099511627776 : Int) x_3.1 x_3.2.1 ∧ (((0 : Nat) = (0 : Nat) ∧ (5 : Int) = x_3.2.2 ∧ True) ∧ (Is (byts x_2.1) (byts x_3.1) ∧ x_2.2.1 + (1 : Int) = x_3.2.1 ∧ True) ∧ True) ∧ ∀ (y_1 : Int),
 ((1 : Int) ≤ x_3.2.2 → (0 : Int) ≤ y_1 ∧ y_1 < x_3.2.2) ∧ (x_3.2.2 < (1 : Int) → y_1 = (0 : Int)) →
 condP (y_1 == (0 : Int))
 ((∃ x_4 : List Int × Int × List ByteArray,
 (Rd (1099511627776 : Int) x_4.1 x_4.2.1 ∧ x_4.2.2 ≠ [] ∧ Sz x_4.2.2) ∧ (((0 : Nat) = (0 : Nat) ∧ Is
 (AV.lit (5 : Nat) (1 : Nat)
 (rowsCell
 [[st (ByteArray.mk #[])], [st (ByteArray.mk #[(65 : UInt8)])], [st (ByteArray.mk #[(97 : UInt8), (98 : UInt8), (99 : UInt8)])],
 [st (ByteArray.mk #[(122 : UInt8), (122 : UInt8)])], [st (ByteArray.mk #[(97 : UInt8)])]]))
 (strs x_4.2.2) ∧ True) ∧ (Is (byts x_3.1) (byts x_4.1) ∧ x_3.2.1 + (1 : Int) = x_4.2.1 ∧ True) ∧ True) ∧ ∀ (y_2 : ByteArray),
 y_2 ∈ x_4.2.2 →
 ((0 : Int) ≤ y ∧ y < (↑x : Int)) ∧ y.toNat < (List.take x s).length ∧ ∃ y_3 : Pl.Sig × Int,
 (Pl.SgB (n + (1 : Nat)) (k + (1 : Nat)) y_3.1 ∧ p ≤ y_3.2 ∧ y_3.2 ≤ p + (100 : Int)) ∧ (0 : Nat) + x ≤ (List.take x s).length ∧ ((Is (AV.sl x (3 : Nat) fun (i j : Nat) => storeC (cY (List.take x s)) y.toNat (0 : Nat) [st y_2] i j)
 (syms y_3.1) ∧ True) ∧ True) ∧ (Is (byts x_4.1) (byts b) ∧ x_4.2.1 + (1 : Int) = y_3.2 ∧ True) ∧ True) ∧ ∃ x_4 : List Int × Int × List ByteArray,
 (Rd (1099511627776 : Int) x_4.1 x_4.2.1 ∧ x_4.2.2 ≠ [] ∧ Sz x_4.2.2) ∧ (((0 : Nat) = (0 : Nat) ∧ Is
 (AV.lit (5 : Nat) (1 : Nat)
 (rowsCell
 [[st (ByteArray.mk #[])], [st (ByteArray.mk #[(65 : UInt8)])], [st (ByteArray.mk #[(97 : UInt8), (98 : UInt8), (99 : UInt8)])],
 [st (ByteArray.mk #[(122 : UInt8), (122 : UInt8)])], [st (ByteArray.mk #[(97 : UInt8)])]]))
 (strs x_4.2.2) ∧ True) ∧ (Is (byts x_3.1) (byts x_4.1) ∧ x_3.2.1 + (1 : Int) = x_4.2.1 ∧ True) ∧ True) ∧ ∀ (y_2 : ByteArray),
 y_2 ∈ x_4.2.2 →
 ((0 : Int) ≤ y ∧ y < (↑x : Int)) ∧ y.toNat < (List.take x s).length ∧ ∃ y_3 : Pl.Sig × Int,
 (Pl.SgB (n + (1 : Nat)) (k + (1 : Nat)) y_3.1 ∧ p ≤ y_3.2 ∧ y_3.2 ≤ p + (100 : Int)) ∧ (0 : Nat) + x ≤ (List.take x s).length ∧ ((Is (AV.sl x (3 : Nat) fun (i j : Nat) => storeC (cY (List.take x s)) y.toNat (0 : Nat) [st y_2] i j)
 (syms y_3.1) ∧ True) ∧ True) ∧ (Is (byts x_4.1) (byts b) ∧ x_4.2.1 + (1 : Int) = y_3.2 ∧ True) ∧ True)
 (condP (y_1 == (1 : Int))
 ((((((0 : Int) ≤ y ∧ y < (↑x : Int)) ∧ (y.toNat < (List.take x s).length ∧ ∃ x_4 : List Int × Int × List Int,
 (Rd (1099511627776 : Int) x_4.1 x_4.2.1 ∧ x_4.2.2 ≠ [] ∧ Sz x_4.2.2) ∧ (((0 : Nat) = (0 : Nat) ∧ Is
 (AV.lit (4 : Nat) (1 : Nat) (rowsCell [[i64 (0 : Int)], [i64 (2 : Int)], [i64 (-1 : Int)], [i64 (1 : Int)]]))
 (ints x_4.2.2) ∧ True) ∧ (Is (byts x_3.1) (byts x_4.1) ∧ x_3.2.1 + (1 : Int) = x_4.2.1 ∧ True) ∧ True) ∧ ∀ (y_2 : Int),
 y_2 ∈ x_4.2.2 →
 ((List.take x s).getD y.toNat Pl.dY).2.1.length = ((List.take x s).getD y.toNat Pl.dY).2.1.length ∧ y.toNat < (List.take x s).length ∧ (1 : Nat) < (3 : Nat) ∧ (((List.take x s).getD y.toNat Pl.dY).2.1.length + (1 : Nat)) * (8 : Nat) ≤ (70368744177664 : Nat) ∧ ((0 : Int) ≤ y ∧ y < (↑x : Int)) ∧ y.toNat < (List.take x s).length ∧ ∃ y_3 : Pl.Sig × Int,
 (Pl.SgB (n + (1 : Nat)) (k + (1 : Nat)) y_3.1 ∧ p ≤ y_3.2 ∧ y_3.2 ≤ p + (100 : Int)) ∧ (0 : Nat) + x ≤ (List.take x s).length ∧ ((Is
 (AV.sl x (3 : Nat) fun (i j : Nat) =>
 storeC (cY (List.take x s)) y.toNat ((1 : Nat))
 [AV.sl (((List.take x s).getD y.toNat Pl.dY).2.1.length + (1 : Nat)) (1 : Nat)
 (joinC ((List.take x s).getD y.toNat Pl.dY).2.1.length
 (cI ((List.take x s).getD y.toNat Pl.dY).2.1) (rowsCell [[i64 y_2]]))]
 i j)
 (syms y_3.1) ∧ True) ∧ True) ∧ (Is (byts x_4.1) (byts b) ∧ x_4.2.1 + (1 : Int) = y_3.2 ∧ True) ∧ True) ∧ ∃ x_4 : List Int × Int × List Int,
 (Rd (1099511627776 : Int) x_4.1 x_4.2.1 ∧ x_4.2.2 ≠ [] ∧ Sz x_4.2.2) ∧ (((0 : Nat) = (0 : Nat) ∧ Is (AV.lit (4 : Nat) (1 : Nat) (rowsCell [[i64 (0 : Int)], [i64 (2 : Int)], [i64 (-1 : Int)], [i64 (1 : Int)]]))
 (ints x_4.2.2) ∧ True) ∧ (Is (byts x_3.1) (byts x_4.1) ∧ x_3.2.1 + (1 : Int) = x_4.2.1 ∧ True) ∧ True) ∧ ∀ (y_2 : Int),
 y_2 ∈ x_4.2.2 →
 y.toNat < (List.take x s).length ∧ ((List.take x s).getD y.toNat Pl.dY).2.1.length = ((List.take x s).getD y.toNat Pl.dY).2.1.length ∧ y.toNat < (List.take x s).length ∧ (1 : Nat) < (3 : Nat) ∧ (((List.take x s).getD y.toNat Pl.dY).2.1.length + (1 : Nat)) * (8 : Nat) ≤ (70368744177664 : Nat) ∧ ((0 : Int) ≤ y ∧ y < (↑x : Int)) ∧ y.toNat < (List.take x s).length ∧ ∃ y_3 : Pl.Sig × Int,
 (Pl.SgB (n + (1 : Nat)) (k + (1 : Nat)) y_3.1 ∧ p ≤ y_3.2 ∧ y_3.2 ≤ p + (100 : Int)) ∧ (0 : Nat) + x ≤ (List.take x s).length ∧ ((Is
 (AV.sl x (3 : Nat) fun (i j : Nat) =>
 storeC (cY (List.take x s)) y.toNat ((1 : Nat))
 [AV.sl (((List.take x s).getD y.toNat Pl.dY).2.1.length + (1 : Nat)) (1 : Nat)
 (joinC ((List.take x s).getD y.toNat Pl.dY).2.1.length
 (cI ((List.take x s).getD y.toNat Pl.dY).2.1) (rowsCell [[i64 y_2]]))]
 i j)
 (syms y_3.1) ∧ True) ∧ True) ∧ (Is (byts x_4.1) (byts b) ∧ x_4.2.1 + (1 : Int) = y_3.2 ∧ True) ∧ True) ∧ ∃ x_4 : List Int × Int × List Int,
 (Rd (1099511627776 : Int) x_4.1 x_4.2.1 ∧ x_4.2.2 ≠ [] ∧ Sz x_4.2.2) ∧ (((0 : Nat) = (0 : Nat) ∧ Is (AV.lit (4 : Nat) (1 : Nat) (rowsCell [[i64 (0 : Int)], [i64 (2 : Int)], [i64 (-1 : Int)], [i64 (1 : Int)]]))
 (ints x_4.2.2) ∧ True) ∧ (Is (byts x_3.1) (byts x_4.1) ∧ x_3.2.1 + (1 : Int) = x_4.2.1 ∧ True) ∧ True) ∧ ∀ (y_2 : Int),
 y_2 ∈ x_4.2.2 →
 ((0 : Int) ≤ y ∧ y < (↑x : Int)) ∧ y.toNat < (List.take x s).length ∧ ((List.take x s).getD y.toNat Pl.dY).2.1.length = ((List.take x s).getD y.toNat Pl.dY).2.1.length ∧ y.toNat < (List.take x s).length ∧ (1 : Nat) < (3 : Nat) ∧ (((List.take x s).getD y.toNat Pl.dY).2.1.length + (1 : Nat)) * (8 : Nat) ≤ (70368744177664 : Nat) ∧ ((0 : Int) ≤ y ∧ y < (↑x : Int)) ∧ y.toNat < (List.take x s).length ∧ ∃ y_3 : Pl.Sig × Int,
 (Pl.SgB (n + (1 : Nat)) (k + (1 : Nat)) y_3.1 ∧ p ≤ y_3.2 ∧ y_3.2 ≤ p + (100 : Int)) ∧ (0 : Nat) + x ≤ (List.take x s).length ∧ ((Is
 (AV.sl x (3 : Nat) fun (i j : Nat) =>
 storeC (cY (List.take x s)) y.toNat ((1 : Nat))
 [AV.sl (((List.take x s).getD y.toNat Pl.dY).2.1.length + (1 : Nat)) (1 : Nat)
 (joinC ((List.take x s).getD y.toNat Pl.dY).2.1.length
 (cI ((List.take x s).getD y.toNat Pl.dY).2.1) (rowsCell [[i64 y_2]]))]
 i j)
 (syms y_3.1) ∧ True) ∧ True) ∧ (Is (byts x_4.1) (byts b) ∧ x_4.2.1 + (1 : Int) = y_3.2 ∧ True) ∧ True) ∧ ∃ x_4 : List Int × Int × List Int,
 (Rd (1099511627776 : Int) x_4.1 x_4.2.1 ∧ x_4.2.2 ≠ [] ∧ Sz x_4.2.2) ∧ (((0 : Nat) = (0 : Nat) ∧ Is (AV.lit (4 : Nat) (1 : Nat) (rowsCell [[i64 (0 : Int)], [i64 (2 : Int)], [i64 (-1 : Int)], [i64 (1 : Int)]]))
 (ints x_4.2.2) ∧ True) ∧ (Is (byts x_3.1) (byts x_4.1) ∧ x_3.2.1 + (1 : Int) = x_4.2.1 ∧ True) ∧ True) ∧ ∀ (y_2 : Int),
 y_2 ∈ x_4.2.2 →
 ((0 : Int) ≤ y ∧ y < (↑x : Int)) ∧ y.toNat < (List.take x s).length ∧ ((List.take x s).getD y.toNat Pl.dY).2.1.length = ((List.take x s).getD y.toNat Pl.dY).2.1.length ∧ y.toNat < (List.take x s).length ∧ (1 : Nat) < (3 : Nat) ∧ (((List.take x s).getD y.toNat Pl.dY).2.1.length + (1 : Nat)) * (8 : Nat) ≤ (70368744177664 : Nat) ∧ ((0 : Int) ≤ y ∧ y < (↑x : Int)) ∧ y.toNat < (List.take x s).length ∧ ∃ y_3 : Pl.Sig × Int,
 (Pl.SgB (n + (1 : Nat)) (k + (1 : Nat)) y_3.1 ∧ p ≤ y_3.2 ∧ y_3.2 ≤ p + (100 : Int)) ∧ (0 : Nat) + x ≤ (List.take x s).length ∧ ((Is
 (AV.sl x (3 : Nat) fun (i j : Nat) =>
 storeC (cY (List.take x s)) y.toNat ((1 : Nat))
 [AV.sl (((List.take x s).getD y.toNat Pl.dY).2.1.length + (1 : Nat)) (1 : Nat)
 (joinC ((List.take x s).getD y.toNat Pl.dY).2.1.length
 (cI ((List.take x s).getD y.toNat Pl.dY).2.1) (rowsCell [[i64 y_2]]))]
 i j)
 (syms y_3.1) ∧ True) ∧ True) ∧ (Is (byts x_4.1) (byts b) ∧ x_4.2.1 + (1 : Int) = y_3.2 ∧ True) ∧ True) ∧ (((((0 : Int) ≤ y ∧ y < (↑x : Int)) ∧ (y.toNat < (List.take x s).length ∧ ∃ x_4 : List Int × Int × List Int,
 (Rd (1099511627776 : Int) x_4.1 x_4.2.1 ∧ x_4.2.2 ≠ [] ∧ Sz x_4.2.2) ∧ (((0 : Nat) = (0 : Nat) ∧ Is
 (AV.lit (4 : Nat) (1 : Nat)
 (rowsCell [[i64 (0 : Int)], [i64 (2 : Int)], [i64 (-1 : Int)], [i64 (1 : Int)]]))
 (ints x_4.2.2) ∧ True) ∧ (Is (byts x_3.1) (byts x_4.1) ∧ x_3.2.1 + (1 : Int) = x_4.2.1 ∧ True) ∧ True) ∧ ∀ (y_2 : Int),
 y_2 ∈ x_4.2.2 →
 ((List.take x s).getD y.toNat Pl.dY).2.1.length = ((List.take x s).getD y.toNat Pl.dY).2.1.length ∧ y.toNat < (List.take x s).length ∧ (1 : Nat) < (3 : Nat) ∧ (((List.take x s).getD y.toNat Pl.dY).2.1.length + (1 : Nat)) * (8 : Nat) ≤ (70368744177664 : Nat) ∧ ((0 : Int) ≤ y ∧ y < (↑x : Int)) ∧ y.toNat < (List.take x s).length ∧ ∃ y_3 : Pl.Sig × Int,
 (Pl.SgB (n + (1 : Nat)) (k + (1 : Nat)) y_3.1 ∧ p ≤ y_3.2 ∧ y_3.2 ≤ p + (100 : Int)) ∧ (0 : Nat) + x ≤ (List.take x s).length ∧ ((Is
 (AV.sl x (3 : Nat) fun (i j : Nat) =>
 storeC (cY (List.take x s)) y.toNat ((1 : Nat))
 [AV.sl (((List.take x s).getD y.toNat Pl.dY).2.1.length + (1 : Nat)) (1 : Nat)
 (joinC ((List.take x s).getD y.toNat Pl.dY).2.1.length
 (cI ((List.take x s).getD y.toNat Pl.dY).2.1) (rowsCell [[i64 y_2]]))]
 i j)
 (syms y_3.1) ∧ True) ∧ True) ∧ (Is (byts x_4.1) (byts b) ∧ x_4.2.1 + (1 : Int) = y_3.2 ∧ True) ∧ True) ∧ ∃ x_4 : List Int × Int × List Int,
 (Rd (1099511627776 : Int) x_4.1 x_4.2.1 ∧ x_4.2.2 ≠ [] ∧ Sz x_4.2.2) ∧ (((0 : Nat) = (0 : Nat) ∧ Is
 (AV.lit (4 : Nat) (1 : Nat) (rowsCell [[i64 (0 : Int)], [i64 (2 : Int)], [i64 (-1 : Int)], [i64 (1 : Int)]]))
 (ints x_4.2.2) ∧ True) ∧ (Is (byts x_3.1) (byts x_4.1) ∧ x_3.2.1 + (1 : Int) = x_4.2.1 ∧ True) ∧ True) ∧ ∀ (y_2 : Int),
 y_2 ∈ x_4.2.2 →
 y.toNat < (List.take x s).length ∧ ((List.take x s).getD y.toNat Pl.dY).2.1.length = ((List.take x s).getD y.toNat Pl.dY).2.1.length ∧ y.toNat < (List.take x s).length ∧ (1 : Nat) < (3 : Nat) ∧ (((List.take x s).getD y.toNat Pl.dY).2.1.length + (1 : Nat)) * (8 : Nat) ≤ (70368744177664 : Nat) ∧ ((0 : Int) ≤ y ∧ y < (↑x : Int)) ∧ y.toNat < (List.take x s).length ∧ ∃ y_3 : Pl.Sig × Int,
 (Pl.SgB (n + (1 : Nat)) (k + (1 : Nat)) y_3.1 ∧ p ≤ y_3.2 ∧ y_3.2 ≤ p + (100 : Int)) ∧ (0 : Nat) + x ≤ (List.take x s).length ∧ ((Is
 (AV.sl x (3 : Nat) fun (i j : Nat) =>
 storeC (cY (List.take x s)) y.toNat ((1 : Nat))
 [AV.sl (((List.take x s).getD y.toNat Pl.dY).2.1.length + (1 : Nat)) (1 : Nat)
 (joinC ((List.take x s).getD y.toNat Pl.dY).2.1.length
 (cI ((List.take x s).getD y.toNat Pl.dY).2.1) (rowsCell [[i64 y_2]]))]
 i j)
 (syms y_3.1) ∧ True) ∧ True) ∧ (Is (byts x_4.1) (byts b) ∧ x_4.2.1 + (1 : Int) = y_3.2 ∧ True) ∧ True) ∧ ∃ x_4 : List Int × Int × List Int,
 (Rd (1099511627776 : Int) x_4.1 x_4.2.1 ∧ x_4.2.2 ≠ [] ∧ Sz x_4.2.2) ∧ (((0 : Nat) = (0 : Nat) ∧ Is (AV.lit (4 : Nat) (1 : Nat) (rowsCell [[i64 (0 : Int)], [i64 (2 : Int)], [i64 (-1 : Int)], [i64 (1 : Int)]]))
 (ints x_4.2.2) ∧ True) ∧ (Is (byts x_3.1) (byts x_4.1) ∧ x_3.2.1 + (1 : Int) = x_4.2.1 ∧ True) ∧ True) ∧ ∀ (y_2 : Int),
 y_2 ∈ x_4.2.2 →
 ((0 : Int) ≤ y ∧ y < (↑x : Int)) ∧ y.toNat < (List.take x s).length ∧ ((List.take x s).getD y.toNat Pl.dY).2.1.length = ((List.take x s).getD y.toNat Pl.dY).2.1.length ∧ y.toNat < (List.take x s).length ∧ (1 : Nat) < (3 : Nat) ∧ (((List.take x s).getD y.toNat Pl.dY).2.1.length + (1 : Nat)) * (8 : Nat) ≤ (70368744177664 : Nat) ∧ ((0 : Int) ≤ y ∧ y < (↑x : Int)) ∧ y.toNat < (List.take x s).length ∧ ∃ y_3 : Pl.Sig × Int,
 (Pl.SgB (n + (1 : Nat)) (k + (1 : Nat)) y_3.1 ∧ p ≤ y_3.2 ∧ y_3.2 ≤ p + (100 : Int)) ∧ (0 : Nat) + x ≤ (List.take x s).length ∧ ((Is
 (AV.sl x (3 : Nat) fun (i j : Nat) =>
 storeC (cY (List.take x s)) y.toNat ((1 : Nat))
 [AV.sl (((List.take x s).getD y.toNat Pl.dY).2.1.length + (1 : Nat)) (1 : Nat)
 (joinC ((List.take x s).getD y.toNat Pl.dY).2.1.length
 (cI ((List.take x s).getD y.toNat Pl.dY).2.1) (rowsCell [[i64 y_2]]))]
 i j)
 (syms y_3.1) ∧ True) ∧ True) ∧ (Is (byts x_4.1) (byts b) ∧ x_4.2.1 + (1 : Int) = y_3.2 ∧ True) ∧ True) ∧ (((0 : Int) ≤ y ∧ y < (↑x : Int)) ∧ ((y.toNat < (List.take x s).length ∧ ∃ x_4 : List Int × Int × List Int,
 (Rd (1099511627776 : Int) x_4.1 x_4.2.1 ∧ x_4.2.2 ≠ [] ∧ Sz x_4.2.2) ∧ (((0 : Nat) = (0 : Nat) ∧ Is
 (AV.lit (4 : Nat) (1 : Nat)
 (rowsCell [[i64 (0 : Int)], [i64 (2 : Int)], [i64 (-1 : Int)], [i64 (1 : Int)]]))
 (ints x_4.2.2) ∧ True) ∧ (Is (byts x_3.1) (byts x_4.1) ∧ x_3.2.1 + (1 : Int) = x_4.2.1 ∧ True) ∧ True) ∧ ∀ (y_2 : Int),
 y_2 ∈ x_4.2.2 →
 ((List.take x s).getD y.toNat Pl.dY).2.1.length = ((List.take x s).getD y.toNat Pl.dY).2.1.length ∧ y.toNat < (List.take x s).length ∧ (1 : Nat) < (3 : Nat) ∧ (((List.take x s).getD y.toNat Pl.dY).2.1.length + (1 : Nat)) * (8 : Nat) ≤ (70368744177664 : Nat) ∧ ((0 : Int) ≤ y ∧ y < (↑x : Int)) ∧ y.toNat < (List.take x s).length ∧ ∃ y_3 : Pl.Sig × Int,
 (Pl.SgB (n + (1 : Nat)) (k + (1 : Nat)) y_3.1 ∧ p ≤ y_3.2 ∧ y_3.2 ≤ p + (100 : Int)) ∧ (0 : Nat) + x ≤ (List.take x s).length ∧ ((Is
 (AV.sl x (3 : Nat) fun (i j : Nat) =>
 storeC (cY (List.take x s)) y.toNat ((1 : Nat))
 [AV.sl (((List.take x s).getD y.toNat Pl.dY).2.1.length + (1 : Nat)) (1 : Nat)
 (joinC ((List.take x s).getD y.toNat Pl.dY).2.1.length
 (cI ((List.take x s).getD y.toNat Pl.dY).2.1) (rowsCell [[i64 y_2]]))]
 i j)
 (syms y_3.1) ∧ True) ∧ True) ∧ (Is (byts x_4.1) (byts b) ∧ x_4.2.1 + (1 : Int) = y_3.2 ∧ True) ∧ True) ∧ ∃ x_4 : List Int × Int × List Int,
 (Rd (1099511627776 : Int) x_4.1 x_4.2.1 ∧ x_4.2.2 ≠ [] ∧ Sz x_4.2.2) ∧ (((0 : Nat) = (0 : Nat) ∧ Is
 (AV.lit (4 : Nat) (1 : Nat)
 (rowsCell [[i64 (0 : Int)], [i64 (2 : Int)], [i64 (-1 : Int)], [i64 (1 : Int)]]))
 (ints x_4.2.2) ∧ True) ∧ (Is (byts x_3.1) (byts x_4.1) ∧ x_3.2.1 + (1 : Int) = x_4.2.1 ∧ True) ∧ True) ∧ ∀ (y_2 : Int),
 y_2 ∈ x_4.2.2 →
 y.toNat < (List.take x s).length ∧ ((List.take x s).getD y.toNat Pl.dY).2.1.length = ((List.take x s).getD y.toNat Pl.dY).2.1.length ∧ y.toNat < (List.take x s).length ∧ (1 : Nat) < (3 : Nat) ∧ (((List.take x s).getD y.toNat Pl.dY).2.1.length + (1 : Nat)) * (8 : Nat) ≤ (70368744177664 : Nat) ∧ ((0 : Int) ≤ y ∧ y < (↑x : Int)) ∧ y.toNat < (List.take x s).length ∧ ∃ y_3 : Pl.Sig × Int,
 (Pl.SgB (n + (1 : Nat)) (k + (1 : Nat)) y_3.1 ∧ p ≤ y_3.2 ∧ y_3.2 ≤ p + (100 : Int)) ∧ (0 : Nat) + x ≤ (List.take x s).length ∧ ((Is
 (AV.sl x (3 : Nat) fun (i j : Nat) =>
 storeC (cY (List.take x s)) y.toNat ((1 : Nat))
 [AV.sl (((List.take x s).getD y.toNat Pl.dY).2.1.length + (1 : Nat)) (1 : Nat)
 (joinC ((List.take x s).getD y.toNat Pl.dY).2.1.length
 (cI ((List.take x s).getD y.toNat Pl.dY).2.1) (rowsCell [[i64 y_2]]))]
 i j)
 (syms y_3.1) ∧ True) ∧ True) ∧ (Is (byts x_4.1) (byts b) ∧ x_4.2.1 + (1 : Int) = y_3.2 ∧ True) ∧ True) ∧ (y.toNat < (List.take x s).length ∧ (∃ x_4 : List Int × Int × List Int,
 (Rd (1099511627776 : Int) x_4.1 x_4.2.1 ∧ x_4.2.2 ≠ [] ∧ Sz x_4.2.2) ∧ (((0 : Nat) = (0 : Nat) ∧ Is
 (AV.lit (4 : Nat) (1 : Nat)
 (rowsCell [[i64 (0 : Int)], [i64 (2 : Int)], [i64 (-1 : Int)], [i64 (1 : Int)]]))
 (ints x_4.2.2) ∧ True) ∧ (Is (byts x_3.1) (byts x_4.1) ∧ x_3.2.1 + (1 : Int) = x_4.2.1 ∧ True) ∧ True) ∧ ∀ (y_2 : Int),
 y_2 ∈ x_4.2.2 →
 ((List.take x s).getD y.toNat Pl.dY).2.1.length = ((List.take x s).getD y.toNat Pl.dY).2.1.length ∧ y.toNat < (List.take x s).length ∧ (1 : Nat) < (3 : Nat) ∧ (((List.take x s).getD y.toNat Pl.dY).2.1.length + (1 : Nat)) * (8 : Nat) ≤ (70368744177664 : Nat) ∧ ((0 : Int) ≤ y ∧ y < (↑x : Int)) ∧ y.toNat < (List.take x s).length ∧ ∃ y_3 : Pl.Sig × Int,
 (Pl.SgB (n + (1 : Nat)) (k + (1 : Nat)) y_3.1 ∧ p ≤ y_3.2 ∧ y_3.2 ≤ p + (100 : Int)) ∧ (0 : Nat) + x ≤ (List.take x s).length ∧ ((Is
 (AV.sl x (3 : Nat) fun (i j : Nat) =>
 storeC (cY (List.take x s)) y.toNat ((1 : Nat))
 [AV.sl (((List.take x s).getD y.toNat Pl.dY).2.1.length + (1 : Nat)) (1 : Nat)
 (joinC ((List.take x s).getD y.toNat Pl.dY).2.1.length
 (cI ((List.take x s).getD y.toNat Pl.dY).2.1) (rowsCell [[i64 y_2]]))]
 i j)
 (syms y_3.1) ∧ True) ∧ True) ∧ (Is (byts x_4.1) (byts b) ∧ x_4.2.1 + (1 : Int) = y_3.2 ∧ True) ∧ True) ∧ ∃ x_4 : List Int × Int × List Int,
 (Rd (1099511627776 : Int) x_4.1 x_4.2.1 ∧ x_4.2.2 ≠ [] ∧ Sz x_4.2.2) ∧ (((0 : Nat) = (0 : Nat) ∧ Is
 (AV.lit (4 : Nat) (1 : Nat)
 (rowsCell [[i64 (0 : Int)], [i64 (2 : Int)], [i64 (-1 : Int)], [i64 (1 : Int)]]))
 (ints x_4.2.2) ∧ True) ∧ (Is (byts x_3.1) (byts x_4.1) ∧ x_3.2.1 + (1 : Int) = x_4.2.1 ∧ True) ∧ True) ∧ ∀ (y_2 : Int),
 y_2 ∈ x_4.2.2 →
 ((List.take x s).getD y.toNat Pl.dY).2.1.length = ((List.take x s).getD y.toNat Pl.dY).2.1.length ∧ y.toNat < (List.take x s).length ∧ (1 : Nat) < (3 : Nat) ∧ (((List.take x s).getD y.toNat Pl.dY).2.1.length + (1 : Nat)) * (8 : Nat) ≤ (70368744177664 : Nat) ∧ ((0 : Int) ≤ y ∧ y < (↑x : Int)) ∧ y.toNat < (List.take x s).length ∧ ∃ y_3 : Pl.Sig × Int,
 (Pl.SgB (n + (1 : Nat)) (k + (1 : Nat)) y_3.1 ∧ p ≤ y_3.2 ∧ y_3.2 ≤ p + (100 : Int)) ∧ (0 : Nat) + x ≤ (List.take x s).length ∧ ((Is
 (AV.sl x (3 : Nat) fun (i j : Nat) =>
 storeC (cY (List.take x s)) y.toNat ((1 : Nat))
 [AV.sl (((List.take x s).getD y.toNat Pl.dY).2.1.length + (1 : Nat)) (1 : Nat)
 (joinC ((List.take x s).getD y.toNat Pl.dY).2.1.length
 (cI ((List.take x s).getD y.toNat Pl.dY).2.1) (rowsCell [[i64 y_2]]))]
 i j)
 (syms y_3.1) ∧ True) ∧ True) ∧ (Is (byts x_4.1) (byts b) ∧ x_4.2.1 + (1 : Int) = y_3.2 ∧ True) ∧ True) ∧ ∃ x_4 : List Int × Int × List Int,
 (Rd (1099511627776 : Int) x_4.1 x_4.2.1 ∧ x_4.2.2 ≠ [] ∧ Sz x_4.2.2) ∧ (((0 : Nat) = (0 : Nat) ∧ Is
 (AV.lit (4 : Nat) (1 : Nat)
 (rowsCell [[i64 (0 : Int)], [i64 (2 : Int)], [i64 (-1 : Int)], [i64 (1 : Int)]]))
 (ints x_4.2.2) ∧ True) ∧ (Is (byts x_3.1) (byts x_4.1) ∧ x_3.2.1 + (1 : Int) = x_4.2.1 ∧ True) ∧ True) ∧ ∀ (y_2 : Int),
 y_2 ∈ x_4.2.2 →
 y.toNat < (List.take x s).length ∧ ((List.take x s).getD y.toNat Pl.dY).2.1.length = ((List.take x s).getD y.toNat Pl.dY).2.1.length ∧ y.toNat < (List.take x s).length ∧ (1 : Nat) < (3 : Nat) ∧ (((List.take x s).getD y.toNat Pl.dY).2.1.length + (1 : Nat)) * (8 : Nat) ≤ (70368744177664 : Nat) ∧ ((0 : Int) ≤ y ∧ y < (↑x : Int)) ∧ y.toNat < (List.take x s).length ∧ ∃ y_3 : Pl.Sig × Int,
 (Pl.SgB (n + (1 : Nat)) (k + (1 : Nat)) y_3.1 ∧ p ≤ y_3.2 ∧ y_3.2 ≤ p + (100 : Int)) ∧ (0 : Nat) + x ≤ (List.take x s).length ∧ ((Is
 (AV.sl x (3 : Nat) fun (i j : Nat) =>
 storeC (cY (List.take x s)) y.toNat ((1 : Nat))
 [AV.sl (((List.take x s).getD y.toNat Pl.dY).2.1.length + (1 : Nat)) (1 : Nat)
 (joinC ((List.take x s).getD y.toNat Pl.dY).2.1.length
 (cI ((List.take x s).getD y.toNat Pl.dY).2.1) (rowsCell [[i64 y_2]]))]
 i j)
 (syms y_3.1) ∧ True) ∧ True) ∧ (Is (byts x_4.1) (byts b) ∧ x_4.2.1 + (1 : Int) = y_3.2 ∧ True) ∧ True) ∧ ∃ x_4 : List Int × Int × List Int,
 (Rd (1099511627776 : Int) x_4.1 x_4.2.1 ∧ x_4.2.2 ≠ [] ∧ Sz x_4.2.2) ∧ (((0 : Nat) = (0 : Nat) ∧ Is (AV.lit (4 : Nat) (1 : Nat) (rowsCell [[i64 (0 : Int)], [i64 (2 : Int)], [i64 (-1 : Int)], [i64 (1 : Int)]]))
 (ints x_4.2.2) ∧ True) ∧ (Is (byts x_3.1) (byts x_4.1) ∧ x_3.2.1 + (1 : Int) = x_4.2.1 ∧ True) ∧ True) ∧ ∀ (y_2 : Int),
 y_2 ∈ x_4.2.2 →
 ((0 : Int) ≤ y ∧ y < (↑x : Int)) ∧ y.toNat < (List.take x s).length ∧ ((List.take x s).getD y.toNat Pl.dY).2.1.length = ((List.take x s).getD y.toNat Pl.dY).2.1.length ∧ y.toNat < (List.take x s).length ∧ (1 : Nat) < (3 : Nat) ∧ (((List.take x s).getD y.toNat Pl.dY).2.1.length + (1 : Nat)) * (8 : Nat) ≤ (70368744177664 : Nat) ∧ ((0 : Int) ≤ y ∧ y < (↑x : Int)) ∧ y.toNat < (List.take x s).length ∧ ∃ y_3 : Pl.Sig × Int,
 (Pl.SgB (n + (1 : Nat)) (k + (1 : Nat)) y_3.1 ∧ p ≤ y_3.2 ∧ y_3.2 ≤ p + (100 : Int)) ∧ (0 : Nat) + x ≤ (List.take x s).length ∧ ((Is
 (AV.sl x (3 : Nat) fun (i j : Nat) =>
 storeC (cY (List.take x s)) y.toNat ((1 : Nat))
 [AV.sl (((List.take x s).getD y.toNat Pl.dY).2.1.length + (1 : Nat)) (1 : Nat)
 (joinC ((List.take x s).getD y.toNat Pl.dY).2.1.length
 (cI ((List.take x s).getD y.toNat Pl.dY).2.1) (rowsCell [[i64 y_2]]))]
 i j)
 (syms y_3.1) ∧ True) ∧ True) ∧ (Is (byts x_4.1) (byts b) ∧ x_4.2.1 + (1 : Int) = y_3.2 ∧ True) ∧ True) ∧ ∃ x_4 : List Int × Int × List Int,
 (Rd (1099511627776 : Int) x_4.1 x_4.2.1 ∧ x_4.2.2 ≠ [] ∧ Sz x_4.2.2) ∧ (((0 : Nat) = (0 : Nat) ∧ Is (AV.lit (4 : Nat) (1 : Nat) (rowsCell [[i64 (0 : Int)], [i64 (2 : Int)], [i64 (-1 : Int)], [i64 (1 : Int)]]))
 (ints x_4.2.2) ∧ True) ∧ (Is (byts x_3.1) (byts x_4.1) ∧ x_3.2.1 + (1 : Int) = x_4.2.1 ∧ True) ∧ True) ∧ ∀ (y_2 : Int),
 y_2 ∈ x_4.2.2 →
 ((0 : Int) ≤ y ∧ y < (↑x : Int)) ∧ y.toNat < (List.take x s).length ∧ ((List.take x s).getD y.toNat Pl.dY).2.1.length = ((List.take x s).getD y.toNat Pl.dY).2.1.length ∧ y.toNat < (List.take x s).length ∧ (1 : Nat) < (3 : Nat) ∧ (((List.take x s).getD y.toNat Pl.dY).2.1.length + (1 : Nat)) * (8 : Nat) ≤ (70368744177664 : Nat) ∧ ((0 : Int) ≤ y ∧ y < (↑x : Int)) ∧ y.toNat < (List.take x s).length ∧ ∃ y_3 : Pl.Sig × Int,
 (Pl.SgB (n + (1 : Nat)) (k + (1 : Nat)) y_3.1 ∧ p ≤ y_3.2 ∧ y_3.2 ≤ p + (100 : Int)) ∧ (0 : Nat) + x ≤ (List.take x s).length ∧ ((Is
 (AV.sl x (3 : Nat) fun (i j : Nat) =>
 storeC (cY (List.take x s)) y.toNat ((1 : Nat))
 [AV.sl (((List.take x s).getD y.toNat Pl.dY).2.1.length + (1 : Nat)) (1 : Nat)
 (joinC ((List.take x s).getD y.toNat Pl.dY).2.1.length
 (cI ((List.take x s).getD y.toNat Pl.dY).2.1) (rowsCell [[i64 y_2]]))]
 i j)
 (syms y_3.1) ∧ True) ∧ True) ∧ (Is (byts x_4.1) (byts b) ∧ x_4.2.1 + (1 : Int) = y_3.2 ∧ True) ∧ True)
 (condP (y_1 == (2 : Int))
 ((∃ x_4 : List Int × Int × List Int,
 (Rd (1099511627776 : Int) x_4.1 x_4.2.1 ∧ x_4.2.2 ≠ [] ∧ Sz x_4.2.2) ∧ (((0 : Nat) = (0 : Nat) ∧ Is (AV.lit (4 : Nat) (1 : Nat) (rowsCell [[i64 (1 : Int)], [i64 (2 : Int)], [i64 (-1 : Int)], [i64 (0 : Int)]]))
 (ints x_4.2.2) ∧ True) ∧ (Is (byts x_3.1) (byts x_4.1) ∧ x_3.2.1 + (1 : Int) = x_4.2.1 ∧ True) ∧ True) ∧ ∀ (y_2 : Int),
 y_2 ∈ x_4.2.2 →
 ((0 : Int) ≤ y ∧ y < (↑x : Int)) ∧ y.toNat < (List.take x s).length ∧ ∃ y_3 : Pl.Sig × Int,
 (Pl.SgB (n + (1 : Nat)) (k + (1 : Nat)) y_3.1 ∧ p ≤ y_3.2 ∧ y_3.2 ≤ p + (100 : Int)) ∧ (0 : Nat) + x ≤ (List.take x s).length ∧ ((Is (AV.sl x (3 : Nat) fun (i j : Nat) => storeC (cY (List.take x s)) y.toNat ((2 : Nat)) [i64 y_2] i j)
 (syms y_3.1) ∧ True) ∧ True) ∧ (Is (byts x_4.1) (byts b) ∧ x_4.2.1 + (1 : Int) = y_3.2 ∧ True) ∧ True) ∧ ∃ x_4 : List Int × Int × List Int,
 (Rd (1099511627776 : Int) x_4.1 x_4.2.1 ∧ x_4.2.2 ≠ [] ∧ Sz x_4.2.2) ∧ (((0 : Nat) = (0 : Nat) ∧ Is (AV.lit (4 : Nat) (1 : Nat) (rowsCell [[i64 (1 : Int)], [i64 (2 : Int)], [i64 (-1 : Int)], [i64 (0 : Int)]]))
 (ints x_4.2.2) ∧ True) ∧ (Is (byts x_3.1) (byts x_4.1) ∧ x_3.2.1 + (1 : Int) = x_4.2.1 ∧ True) ∧ True) ∧ ∀ (y_2 : Int),
 y_2 ∈ x_4.2.2 →
 ((0 : Int) ≤ y ∧ y < (↑x : Int)) ∧ y.toNat < (List.take x s).length ∧ ∃ y_3 : Pl.Sig × Int,
 (Pl.SgB (n + (1 : Nat)) (k + (1 : Nat)) y_3.1 ∧ p ≤ y_3.2 ∧ y_3.2 ≤ p + (100 : Int)) ∧ (0 : Nat) + x ≤ (List.take x s).length ∧ ((Is (AV.sl x (3 : Nat) fun (i j : Nat) => storeC (cY (List.take x s)) y.toNat ((2 : Nat)) [i64 y_2] i j)
 (syms y_3.1) ∧ True) ∧ True) ∧ (Is (byts x_4.1) (byts b) ∧ x_4.2.1 + (1 : Int) = y_3.2 ∧ True) ∧ True)
 (condP (y_1 == (3 : Int))
 (((0 : Int) ≤ y ∧ y < (↑x : Int)) ∧ y.toNat < (List.take x s).length ∧ ((List.take x s).getD y.toNat Pl.dY).2.1.length = ((List.take x s).getD y.toNat Pl.dY).2.1.length ∧ y.toNat < (List.take x s).length ∧ (0 : Nat) + x ≤ (List.take x s).length ∧ (x + (1 : Nat)) * (48 : Nat) ≤ (70368744177664 : Nat) ∧ ∃ y_2 : Pl.Sig × Int,
 (Pl.SgB (n + (1 : Nat)) (k + (1 : Nat)) y_2.1 ∧ p ≤ y_2.2 ∧ y_2.2 ≤ p + (100 : Int)) ∧ (0 : Nat) + (x + (1 : Nat)) ≤ x + (1 : Nat) ∧ ((Is
 (AV.sl (x + (1 : Nat)) (3 : Nat) fun (i j : Nat) =>
 joinC x (cY (List.take x s))
 (rowsCell
 [[st ((List.take x s).getD y.toNat Pl.dY).1, ints ((List.take x s).getD y.toNat Pl.dY).2.1,
 i64 ((List.take x s).getD y.toNat Pl.dY).2.2]])
 i j)
 (syms y_2.1) ∧ True) ∧ True) ∧ (Is (byts x_3.1) (byts b) ∧ x_3.2.1 + (1 : Int) = y_2.2 ∧ True) ∧ True)
 ((∃ x_4 : Pl.Sig × Int,
 (Pl.SgB (n + (1 : Nat)) (k + (1 : Nat)) x_4.1 ∧ p ≤ x_4.2 ∧ x_4.2 ≤ p + (50 : Int) + (↑(List.length x_4.1) : Int)) ∧ ((0 : Nat) = (0 : Nat) ∧ (0 : Nat) = (0 : Nat) ∧ (0 : Nat) = (0 : Nat) ∧ True) ∧ (Is (byts x_3.1) (byts b) ∧ x_3.2.1 + (1 : Int) = x_4.2 ∧ True) ∧ True ∧ (Is (AV.lit (0 : Nat) (1 : Nat) fun (x x_5 : Nat) => AV.any) nilA ∧ True) ∧ (((0 : Nat) = (0 : Nat) ∧ x = List.length x_4.1) ∧ True) ∧ IsO (arY (List.take x s)) (arY x_4.1) ∧ True) ∧ ∀ (x : Pl.Sig × Int),
 Pl.SgB (n + (1 : Nat)) (k + (1 : Nat)) x.1 ∧ p ≤ x.2 ∧ x.2 ≤ p + (50 : Int) + (↑(List.length x.1) : Int) →
 condP (decide ((↑(List.length x.1) : Int) ≤ (7 : Int)))
 ((∃ x_4 : List Int × Int × List ByteArray,
 (Rd (1099511627776 : Int) x_4.1 x_4.2.1 ∧ x_4.2.2 ≠ [] ∧ Sz x_4.2.2) ∧ (((0 : Nat) = (0 : Nat) ∧ Is
 (AV.lit (3 : Nat) (1 : Nat)
 (rowsCell
 [[st (ByteArray.mk #[(97 : UInt8)])], [st (ByteArray.mk #[(98 : UInt8)])],
 [st (ByteArray.mk #[(122 : UInt8)])]]))
 (strs x_4.2.2) ∧ True) ∧ (Is (byts b) (byts x_4.1) ∧ x.2 = x_4.2.1 ∧ True) ∧ True) ∧ ∀ (y : ByteArray),
 y ∈ x_4.2.2 →
 (↑((1 : Nat) + y.size) : Int) ≤ (9223372036854775807 : Int) ∧ (0 : Nat) + List.length x.1 ≤ List.length x.1 ∧ (List.length x.1 + (1 : Nat)) * (48 : Nat) ≤ (70368744177664 : Nat) ∧ Exists fun (x' : Pl.Sig × Int) =>
 (Pl.SgB (n + (1 : Nat)) (k + (1 : Nat)) x'.1 ∧ p ≤ x'.2 ∧ x'.2 ≤ p + (50 : Int) + (↑(List.length x'.1) : Int)) ∧ (15 : Nat) - List.length x'.1 < (15 : Nat) - List.length x.1 ∧ ((0 : Nat) = (0 : Nat) ∧ (0 : Nat) = (0 : Nat) ∧ (0 : Nat) = (0 : Nat) ∧ True) ∧ (Is (byts x_4.1) (byts b) ∧ x_4.2.1 + (1 : Int) = x'.2 ∧ True) ∧ True ∧ (Is (AV.lit (0 : Nat) (1 : Nat) fun (x x_5 : Nat) => AV.any) nilA ∧ True) ∧ (((0 : Nat) = (0 : Nat) ∧ List.length x.1 + (1 : Nat) = List.length x'.1) ∧ True) ∧ IsO
 (AObj.arr (List.length x.1 + (1 : Nat)) (3 : Nat)
 (joinC (List.length x.1) (cY x.1)
 (rowsCell
 [[st (ByteArray.mk #[(122 : UInt8)] ++ y),
 AV.lit (0 : Nat) (1 : Nat) fun (x x_5 : Nat) => AV.any, i64 (0 : Int)]])))
 (arY x'.1) ∧ True) ∧ ∃ x_4 : List Int × Int × List ByteArray,
 (Rd (1099511627776 : Int) x_4.1 x_4.2.1 ∧ x_4.2.2 ≠ [] ∧ Sz x_4.2.2) ∧ (((0 : Nat) = (0 : Nat) ∧ Is
 (AV.lit (3 : Nat) (1 : Nat)
 (rowsCell
 [[st (ByteArray.mk #[(97 : UInt8)])], [st (ByteArray.mk #[(98 : UInt8)])],
 [st (ByteArray.mk #[(122 : UInt8)])]]))
 (strs x_4.2.2) ∧ True) ∧ (Is (byts b) (byts x_4.1) ∧ x.2 = x_4.2.1 ∧ True) ∧ True) ∧ ∀ (y : ByteArray),
 y ∈ x_4.2.2 →
 (↑((1 : Nat) + y.size) : Int) ≤ (9223372036854775807 : Int) ∧ (0 : Nat) + List.length x.1 ≤ List.length x.1 ∧ (List.length x.1 + (1 : Nat)) * (48 : Nat) ≤ (70368744177664 : Nat) ∧ Exists fun (x' : Pl.Sig × Int) =>
 (Pl.SgB (n + (1 : Nat)) (k + (1 : Nat)) x'.1 ∧ p ≤ x'.2 ∧ x'.2 ≤ p + (50 : Int) + (↑(List.length x'.1) : Int)) ∧ (15 : Nat) - List.length x'.1 < (15 : Nat) - List.length x.1 ∧ ((0 : Nat) = (0 : Nat) ∧ (0 : Nat) = (0 : Nat) ∧ (0 : Nat) = (0 : Nat) ∧ True) ∧ (Is (byts x_4.1) (byts b) ∧ x_4.2.1 + (1 : Int) = x'.2 ∧ True) ∧ True ∧ (Is (AV.lit (0 : Nat) (1 : Nat) fun (x x_5 : Nat) => AV.any) nilA ∧ True) ∧ (((0 : Nat) = (0 : Nat) ∧ List.length x.1 + (1 : Nat) = List.length x'.1) ∧ True) ∧ IsO
 (AObj.arr (List.length x.1 + (1 : Nat)) (3 : Nat)
 (joinC (List.length x.1) (cY x.1)
 (rowsCell
 [[st (ByteArray.mk #[(122 : UInt8)] ++ y),
 AV.lit (0 : Nat) (1 : Nat) fun (x x_5 : Nat) => AV.any, i64 (0 : Int)]])))
 (arY x'.1) ∧ True)
 (∃ y : Pl.Sig × Int,
 (Pl.SgB (n + (1 : Nat)) (k + (1 : Nat)) y.1 ∧ p ≤ y.2 ∧ y.2 ≤ p + (100 : Int)) ∧ (0 : Nat) + List.length x.1 ≤ List.length x.1 ∧ ((Is (syms x.1) (syms y.1) ∧ True) ∧ True) ∧ (Is (byts b) (byts b) ∧ x.2 = y.2 ∧ True) ∧ True))))))))) = Goal Try.prog [K_pick, K_num, K_of] (A_l4Bent b p s n k) K_l4Bent.1 K_l4Bent.2 ((b, p, s, n, k)) := by kernel_rfl

end Cg

/-
  What is left to show of each function's code, printed by a program: Draw. No condition.
-/
set_option maxRecDepth 100000
set_option linter.unusedVariables false
namespace Cg
open Go Go.Proofs
theorem vc_l16Open (b : List Int) : (condP (decide ((↑b.length : Int) > (2000 : Int)))
 (((0 : Int) ≤ (2000 : Int) ∧ (2000 : Int) ≤ (↑b.length : Int)) ∧ ∃ y : List Int, Rd (0 : Int) y (0 : Int) ∧ ((0 : Nat) = (0 : Nat) ∧ True) ∧ (Is (AV.sl (2000 : Nat) (1 : Nat) (cU b)) (byts y) ∧ (0 : Int) = (0 : Int) ∧ True) ∧ True)
 (∃ y : List Int, Rd (0 : Int) y (0 : Int) ∧ ((0 : Nat) = (0 : Nat) ∧ True) ∧ (Is (byts b) (byts y) ∧ (0 : Int) = (0 : Int) ∧ True) ∧ True)) = Goal Try.prog [] ([]) K_l16Open.1 K_l16Open.2 (b) := by kernel_rfl

theorem vc_pick (b : List Int) (p n : Int) : (condP (decide (n < (1 : Int)))
 (∃ y : Int,
 (((1 : Int) ≤ n → (0 : Int) ≤ y ∧ y < n) ∧ (n < (1 : Int) → y = (0 : Int))) ∧ ((0 : Int) = y ∧ True) ∧ (Is (byts b) (byts b) ∧ IntKind.i64.wrap (p + (1 : Int)) = p + (1 : Int) ∧ True) ∧ True)
 (condP ((↑b.length : Int) == (0 : Int))
 (∃ y : Int,
 (((1 : Int) ≤ n → (0 : Int) ≤ y ∧ y < n) ∧ (n < (1 : Int) → y = (0 : Int))) ∧ ((0 : Int) = y ∧ True) ∧ (Is (byts b) (byts b) ∧ IntKind.i64.wrap (p + (1 : Int)) = p + (1 : Int) ∧ True) ∧ True)
 (condP (decide (IntKind.i64.wrap (IntKind.i64.wrap (p + (1 : Int)) - (1 : Int)) < (↑b.length : Int)))
 (((0 : Int) ≤ IntKind.i64.wrap (IntKind.i64.wrap (p + (1 : Int)) - (1 : Int)) ∧ IntKind.i64.wrap (IntKind.i64.wrap (p + (1 : Int)) - (1 : Int)) < (↑b.length : Int)) ∧ (IntKind.i64.wrap (IntKind.i64.wrap (p + (1 : Int)) - (1 : Int))).toNat < b.length ∧ n ≠ (0 : Int) ∧ ∃ y : Int,
 (((1 : Int) ≤ n → (0 : Int) ≤ y ∧ y < n) ∧ (n < (1 : Int) → y = (0 : Int))) ∧ ((IntKind.i64.wrap (b.getD (IntKind.i64.wrap (IntKind.i64.wrap (p + (1 : Int)) - (1 : Int))).toNat (0 : Int))).tmod n = y ∧ True) ∧ (Is (byts b) (byts b) ∧ IntKind.i64.wrap (p + (1 : Int)) = p + (1 : Int) ∧ True) ∧ True)
 ((↑b.length : Int) ≠ (0 : Int) ∧ ((0 : Int) ≤ (IntKind.i64.wrap (IntKind.i64.wrap (p + (1 : Int)) - (1 : Int))).tmod (↑b.length : Int) ∧ (IntKind.i64.wrap (IntKind.i64.wrap (p + (1 : Int)) - (1 : Int))).tmod (↑b.length : Int) < (↑b.length : Int)) ∧ ((IntKind.i64.wrap (IntKind.i64.wrap (p + (1 : Int)) - (1 : Int))).tmod (↑b.length : Int)).toNat < b.length ∧ (↑b.length : Int) ≠ (0 : Int) ∧ ((0 : Int) ≤ (IntKind.i64.wrap (IntKind.i64.wrap (IntKind.i64.wrap (IntKind.i64.wrap (p + (1 : Int)) - (1 : Int)) * (7 : Int)) + (3 : Int))).tmod (↑b.length : Int) ∧ (IntKind.i64.wrap (IntKind.i64.wrap (IntKind.i64.wrap (IntKind.i64.wrap (p + (1 : Int)) - (1 : Int)) * (7 : Int)) + (3 : Int))).tmod (↑b.length : Int) <
 (↑b.length : Int)) ∧ ((IntKind.i64.wrap (IntKind.i64.wrap (IntKind.i64.wrap (IntKind.i64.wrap (p + (1 : Int)) - (1 : Int)) * (7 : Int)) + (3 : Int))).tmod (↑b.length : Int)).toNat < b.length ∧ (↑b.length : Int) ≠ (0 : Int) ∧ (64 : Int) ≠ (0 : Int) ∧ n ≠ (0 : Int) ∧ ∃ y : Int,
 (((1 : Int) ≤ n → (0 : Int) ≤ y ∧ y < n) ∧ (n < (1 : Int) → y = (0 : Int))) ∧ ((IntKind.i64.wrap
 (↑(BitVec.ofInt (64 : Nat)
 (IntKind.i64.wrap
 (IntKind.i64.wrap
 (IntKind.i64.wrap
 (IntKind.i64.wrap
 (IntKind.i64.wrap
 (b.getD ((IntKind.i64.wrap (IntKind.i64.wrap (p + (1 : Int)) - (1 : Int))).tmod (↑b.length : Int)).toNat (0 : Int)) *
 (131 : Int)) +
 IntKind.i64.wrap
 (IntKind.i64.wrap
 (b.getD
 ((IntKind.i64.wrap
 (IntKind.i64.wrap (IntKind.i64.wrap (IntKind.i64.wrap (p + (1 : Int)) - (1 : Int)) * (7 : Int)) +
 (3 : Int))).tmod
 (↑b.length : Int)).toNat
 (0 : Int)) *
 (1117 : Int))) +
 IntKind.i64.wrap (IntKind.i64.wrap (IntKind.i64.wrap (p + (1 : Int)) - (1 : Int)) * (29 : Int))) +
 IntKind.i64.wrap
 (IntKind.i64.wrap ((IntKind.i64.wrap (IntKind.i64.wrap (p + (1 : Int)) - (1 : Int))).tdiv (↑b.length : Int)) * (53 : Int)))) ^^^
 BitVec.ofInt (64 : Nat)
 (IntKind.i64.wrap
 ((IntKind.i64.wrap
 (IntKind.i64.wrap
 (IntKind.i64.wrap
 (IntKind.i64.wrap
 (IntKind.i64.wrap
 (b.getD ((IntKind.i64.wrap (IntKind.i64.wrap (p + (1 : Int)) - (1 : Int))).tmod (↑b.length : Int)).toNat (0 : Int)) *
 (131 : Int)) +
 IntKind.i64.wrap
 (IntKind.i64.wrap
 (b.getD
 ((IntKind.i64.wrap
 (IntKind.i64.wrap (IntKind.i64.wrap (IntKind.i64.wrap (p + (1 : Int)) - (1 : Int)) * (7 : Int)) +
 (3 : Int))).tmod
 (↑b.length : Int)).toNat
 (0 : Int)) *
 (1117 : Int))) +
 IntKind.i64.wrap (IntKind.i64.wrap (IntKind.i64.wrap (p + (1 : Int)) - (1 : Int)) * (29 : Int))) +
 IntKind.i64.wrap
 (IntKind.i64.wrap ((IntKind.i64.wrap (IntKind.i64.wrap (p + (1 : Int)) - (1 : Int))).tdiv (↑b.length : Int)) * (53 : Int)))).tdiv
 (64 : Int)))).toNat :
 Int)).tmod
 n =
 y ∧ True) ∧ (Is (byts b) (byts b) ∧ IntKind.i64.wrap (p + (1 : Int)) = p + (1 : Int) ∧ True) ∧ True)))) = Goal Try.prog [] ([]) K_pick.1 K_pick.2 ((b, p, n)) := by kernel_rfl

theorem vc_num (b : List Int) (p : Int) (l : List Int) : (∃ x : List Int × Int × Int,
 Rd (1099511627776 : Int) x.1 x.2.1 ∧ (((0 : Nat) = (0 : Nat) ∧ (↑l.length : Int) = x.2.2 ∧ True) ∧ (Is (byts b) (byts x.1) ∧ p = x.2.1 ∧ True) ∧ True) ∧ ∀ (y : Int),
 ((1 : Int) ≤ x.2.2 → (0 : Int) ≤ y ∧ y < x.2.2) ∧ (x.2.2 < (1 : Int) → y = (0 : Int)) →
 ((0 : Int) ≤ y ∧ y < (↑l.length : Int)) ∧ y.toNat < l.length ∧ ∃ y_1 : Int, y_1 ∈ l ∧ (l.getD y.toNat (0 : Int) = y_1 ∧ True) ∧ (Is (byts x.1) (byts b) ∧ x.2.1 + (1 : Int) = p + (1 : Int) ∧ True) ∧ True) = Goal Try.prog [K_pick] ([]) K_num.1 K_num.2 ((b, p, l)) := by kernel_rfl

end Cg

/-
  What is left to show of each function's code, printed by a program: Units. No condition.
-/
set_option maxRecDepth 100000
set_option linter.unusedVariables false
namespace Cg
open Go Go.Proofs
end Cg

/-
  Unit propagation: plain laws. No condition.
-/
set_option linter.unusedVariables false
namespace Pl
open Go Cg

/-- A mark of at most sixty variables. -/
def Mk (x : Int) : Prop := x ≠ 0 ∧ -60 ≤ x ∧ x ≤ 60
theorem Mk.wneg {x : Int} (h : Mk x) : Pl.wneg x = -x := by
  obtain ⟨h1, h2, h3⟩ := h
  unfold Pl.wneg; rw [Cg.wrap_small (by omega) (by omega)]; omega
theorem absW_of {x : Int} (h : Mk x) : absW x = if x < 0 then -x else x := by
  obtain ⟨h1, h2, h3⟩ := h
  unfold absW Pl.wneg
  rw [if_neg (by omega), if_neg (by omega)]
  split
  · rw [Cg.wrap_small (by omega) (by omega)]; omega
  · rfl
theorem take_succ_getD {α : Type} (d : α) {l : List α} {i : Nat} (h : i < l.length) : l.take (i + 1) = l.take i ++ [l.getD i d] := by
  rw [List.take_succ_eq_append_getElem h]; simp [h]
end Pl

/-
  What is left to show of each function's code, printed by a program: Cnf. No condition.
-/
set_option maxRecDepth 100000
set_option linter.unusedVariables false
namespace Cg
open Go Go.Proofs
end Cg

/-
  The codes' contracts: clause sets. No condition.
-/
set_option linter.unusedVariables false
set_option linter.unusedSimpArgs false
set_option maxRecDepth 100000
namespace Cg
open Go Go.Proofs

end Cg

/-
  The codes' contracts: unit propagation. No condition.
-/
set_option linter.unusedVariables false
set_option linter.unusedSimpArgs false
set_option maxRecDepth 100000
namespace Cg
open Go Go.Proofs

end Cg

/-
  The codes' contracts: the reader. No condition.
-/
set_option linter.unusedVariables false
set_option linter.unusedSimpArgs false
set_option maxRecDepth 100000
namespace Cg
open Go Go.Proofs

theorem Rd.mono {m m' : Int} {b : List Int} {p : Int} (h : Rd m b p) (hm : m ≤ m') : Rd m' b p := ⟨h.1, h.2.1, h.2.2.1, Int.le_trans h.2.2.2 hm⟩
theorem Rd.add {m m' : Int} {b : List Int} {p p' : Int} (h : Rd m b p) (h1 : p ≤ p') (h2 : p' ≤ m') : Rd m' b p' := ⟨h.1, h.2.1, Int.le_trans h.2.2.1 h1, h2⟩

theorem k_l16Open : SoundC Try.prog K_l16Open.1 K_l16Open.2 := sound_of hm CtxOK.nil (fun _ => []) (by kernel_rfl) fun (b : List Int) hb => cast (vc_l16Open b) (by
  obtain ⟨h1, h2⟩ : Sz b ∧ Byt b := hb
  simp [-List.getD_eq_getElem?_getD, and_assoc]
  refine ⟨fun h => ⟨by omega, b.take 2000, ⟨by simp; omega, fun x hx => h2 x (List.mem_of_mem_take hx), Int.le_refl 0, Int.le_refl 0⟩, (byts_take (by omega)).2 rfl⟩, fun h => ⟨by omega, h2, Int.le_refl 0, Int.le_refl 0⟩⟩)

theorem xor_nonneg {E : Int} (h0 : 0 ≤ E) (h1 : E < 281474976710656) : 0 ≤ IntKind.i64.wrap ((BitVec.ofInt 64 E ^^^ BitVec.ofInt 64 (IntKind.i64.wrap (E.tdiv 64))).toNat : Int) := by
  have d1 : 0 ≤ E.tdiv 64 := Int.tdiv_nonneg h0 (by omega)
  have d2 : E.tdiv 64 ≤ E := Int.tdiv_le_self _ h0
  rw [wrap_small (x := E.tdiv 64) (by omega) (by omega)]
  have e : ∀ x : Int, 0 ≤ x → x < 281474976710656 → (BitVec.ofInt 64 x).toNat < 2 ^ 48 := fun x h h' => by
    rw [BitVec.toNat_ofInt]
    have : x % ((2 ^ 64 : Nat) : Int) = x := Int.emod_eq_of_lt h (by omega)
    rw [this]; omega
  have h : (BitVec.ofInt 64 E ^^^ BitVec.ofInt 64 (E.tdiv 64)).toNat < 2 ^ 48 := by
    rw [BitVec.toNat_xor]
    exact Nat.xor_lt_two_pow (e E h0 h1) (e _ d1 (by omega))
  rw [wrap_small (by omega) (by omega)]
  omega

set_option maxHeartbeats 2000000 in
theorem k_pick : SoundC Try.prog K_pick.1 K_pick.2 := sound_of hm CtxOK.nil (fun _ => []) (by kernel_rfl) fun (b, p, n) hb => cast (vc_pick b p n) (by
  obtain ⟨h1, h2, h3, h4⟩ : Rd 1099511627776 b p := hb
  rw [wrap_small (x := p + 1) (by omega) (by omega), show p + 1 - 1 = p by omega, wrap_small (x := p) (by omega) (by omega)]
  simp only [condP_iff, decide_eq_true_eq, decide_eq_false_iff_not, beq_iff_eq, beq_eq_false_iff_ne, ne_eq]
  refine ⟨fun h => ⟨0, ⟨fun h' => absurd h' (by omega), fun _ => rfl⟩, by simp⟩, fun h => ⟨fun h' => ⟨0, ⟨fun _ => ⟨by omega, by omega⟩, fun _ => rfl⟩, by simp⟩, fun h' => ?_⟩⟩
  have hL : (0 : Int) < b.length := by
    omega
  have byte : ∀ i, i < b.length → 0 ≤ b.getD i 0 ∧ b.getD i 0 < 256 := fun i hi => h2 _ (getD_mem 0 hi)
  have tm : ∀ x : Int, 0 ≤ x → 0 ≤ x.tmod b.length ∧ x.tmod b.length < b.length := fun x hx => ⟨Int.tmod_nonneg _ hx, Int.tmod_lt_of_pos _ hL⟩
  refine ⟨fun hlt => ?_, fun hge => ?_⟩
  · obtain ⟨b1, b2⟩ := byte p.toNat (by omega)
    refine ⟨⟨by omega, hlt⟩, by omega, by omega, _, ⟨fun _ => ⟨?_, ?_⟩, fun h'' => absurd h'' (by omega)⟩, ⟨rfl, trivial⟩, by simp⟩
    · rw [wrap_small (by omega) (by omega)]; exact Int.tmod_nonneg _ b1
    · exact Int.tmod_lt_of_pos _ (by omega)
  · have e1 : IntKind.i64.wrap (p * 7) = p * 7 := wrap_small (by omega) (by omega)
    have e2 : IntKind.i64.wrap (p * 7 + 3) = p * 7 + 3 := wrap_small (by omega) (by omega)
    simp only [e1, e2]
    obtain ⟨t1, t2⟩ := tm p h3
    obtain ⟨t3, t4⟩ := tm (p * 7 + 3) (by omega)
    obtain ⟨a1, a2⟩ := byte (p.tmod b.length).toNat (by omega)
    obtain ⟨a3, a4⟩ := byte ((p * 7 + 3).tmod b.length).toNat (by omega)
    have d1 : 0 ≤ p.tdiv b.length := Int.tdiv_nonneg h3 (by omega)
    have d2 : p.tdiv b.length ≤ p := Int.tdiv_le_self _ h3
    refine ⟨by omega, ⟨t1, t2⟩, by omega, by omega, ⟨t3, t4⟩, by omega, by omega, by omega, by omega, ?_⟩
    generalize b.getD (p.tmod b.length).toNat 0 = A at a1 a2 ⊢
    generalize b.getD ((p * 7 + 3).tmod b.length).toNat 0 = B at a3 a4 ⊢
    generalize p.tdiv b.length = D at d1 d2 ⊢
    have e3 : IntKind.i64.wrap A = A := wrap_small (by omega) (by omega)
    have e4 : IntKind.i64.wrap (A * 131) = A * 131 := wrap_small (by omega) (by omega)
    have e5 : IntKind.i64.wrap B = B := wrap_small (by omega) (by omega)
    have e6 : IntKind.i64.wrap (B * 1117) = B * 1117 := wrap_small (by omega) (by omega)
    have e7 : IntKind.i64.wrap (A * 131 + B * 1117) = A * 131 + B * 1117 := wrap_small (by omega) (by omega)
    have e8 : IntKind.i64.wrap (p * 29) = p * 29 := wrap_small (by omega) (by omega)
    have e9 : IntKind.i64.wrap (A * 131 + B * 1117 + p * 29) = A * 131 + B * 1117 + p * 29 := wrap_small (by omega) (by omega)
    have e10 : IntKind.i64.wrap D = D := wrap_small (by omega) (by omega)
    have e11 : IntKind.i64.wrap (D * 53) = D * 53 := wrap_small (by omega) (by omega)
    have e12 : IntKind.i64.wrap (A * 131 + B * 1117 + p * 29 + D * 53) = A * 131 + B * 1117 + p * 29 + D * 53 := wrap_small (by omega) (by omega)
    simp only [e3, e4, e5, e6, e7, e8, e9, e10, e11, e12]
    have hE : 0 ≤ A * 131 + B * 1117 + p * 29 + D * 53 ∧ A * 131 + B * 1117 + p * 29 + D * 53 < 281474976710656 := by omega
    generalize A * 131 + B * 1117 + p * 29 + D * 53 = E at hE
    refine ⟨_, ⟨fun _ => ⟨Int.tmod_nonneg _ (xor_nonneg hE.1 hE.2), Int.tmod_lt_of_pos _ (by omega)⟩, fun h'' => absurd h'' (by omega)⟩, ⟨rfl, trivial⟩, by simp⟩)

end Cg

/-
  Drawn clause sets: plain laws. No condition.
-/
set_option linter.unusedVariables false
set_option linter.unusedSimpArgs false
namespace Pl
open Go Cg

theorem lIs_neg {x : Int} {v : List Bool} (h0 : x ≠ 0) (h1 : x ≤ v.length) (h2 : -(v.length : Int) ≤ x) : lIs (-x) v = !lIs x v := by
  have e1 : ¬ (-x = 0 ∨ -x > (v.length : Int) ∨ -x < -(v.length : Int)) := by omega
  have e2 : ¬ (x = 0 ∨ x > (v.length : Int) ∨ x < -(v.length : Int)) := by omega
  unfold lIs
  rw [if_neg e1, if_neg e2]
  by_cases h : x < 0
  · have e3 : ¬ -x < 0 := by omega
    rw [if_neg e3, if_pos h, Bool.not_not]; congr 2; omega
  · have e3 : -x < 0 := by omega
    rw [if_pos e3, if_neg h]; congr 3; omega
theorem Mk.le_abs {x n : Int} (h : Mk x) (h1 : absW x ≤ n) : x ≤ n ∧ -n ≤ x := by
  rw [absW_of h] at h1
  split at h1 <;> omega
theorem Mk.lIs {x : Int} {v : List Bool} (h : Mk x) (h1 : absW x ≤ v.length) : Pl.lIs (Pl.wneg x) v = !Pl.lIs x v := by
  obtain ⟨h2, h3⟩ := h.le_abs h1
  rw [h.wneg]
  exact lIs_neg h.1 h2 h3

end Pl

/-
  The codes' contracts: drawn clause sets. No condition.
-/
set_option linter.unusedVariables false
set_option linter.unusedSimpArgs false
set_option maxRecDepth 100000
namespace Cg
open Go Go.Proofs

theorem k_num : SoundC Try.prog K_num.1 K_num.2 := sound_of hm (CtxOK.nil.and k_pick) (fun _ => []) (by kernel_rfl) fun (b, p, l) hb => cast (vc_num b p l) (by
  obtain ⟨h1, h2, h3⟩ : Rd 1099511627776 b p ∧ l ≠ [] ∧ Sz l := hb
  simp [-List.getD_eq_getElem?_getD, and_assoc]
  have hl : 0 < l.length := List.length_pos_iff.2 h2
  exact ⟨b, p, h1, rfl, rfl, fun y h4 h5 => by
    obtain ⟨h6, h7⟩ := h4 (by omega)
    exact ⟨h6, h7, by omega, _, getD_mem 0 (by omega), rfl, rfl, rfl⟩⟩)

end Cg

/-
  The codes' contracts: drawn clause sets, the rest. No condition.
-/
set_option linter.unusedVariables false
set_option linter.unusedSimpArgs false
set_option maxRecDepth 100000
namespace Cg
open Go Go.Proofs


theorem Rd.to {m m' : Int} {b : List Int} {p p' : Int} (h : Rd m b p) (h1 : 0 ≤ p') (h2 : p' ≤ m') : Rd m' b p' := ⟨h.1, h.2.1, h1, h2⟩
theorem Rds.two {v w : List Int} {a b : AV} (h1 : Is a (ints v)) (h2 : Is b (ints w)) : Rds 1 eII [] 2 (rowsCell [[a], [b]]) [v, w] := ⟨rfl, fun i hi j hj => by
  match i, j, hi, hj with
  | 0, 0, _, _ => exact h1
  | 1, 0, _, _ => exact h2⟩
theorem Rds.one {v : List Int} {a : AV} (h1 : Is a (ints v)) : Rds 1 eII [] 1 (rowsCell [[a]]) [v] := ⟨rfl, fun i hi j hj => by
  match i, j, hi, hj with
  | 0, 0, _, _ => exact h1⟩

theorem Sm.len {a : Int} {l : List (List Int)} (h : Sm (a, l)) : a ≤ 61 ∧ l.length ≤ 100 ∧ ∀ x ∈ l, x.length ≤ 100 := h
end Cg

/-
  The codes' contracts: laws of drawn clause sets. No condition.
-/
set_option linter.unusedVariables false
set_option linter.unusedSimpArgs false
set_option maxRecDepth 100000
namespace Cg
open Go Go.Proofs

theorem byt_of {l : List Int} (h : ∀ x ∈ l, (Lit.int .u8 x).wf = true) : Byt l := fun x hx => by
  have := h x hx
  simp [Lit.wf, IntKind.min, IntKind.max, IntKind.signed, IntKind.bits] at this
  omega
end Cg

/-
  The codes' contracts: drawn words. No condition.
-/
set_option linter.unusedVariables false
set_option linter.unusedSimpArgs false
set_option maxRecDepth 100000
namespace Cg
open Go Go.Proofs Pl
theorem slit (v : ByteArray) (j : Nat) (hj : j < 1) : [st v].getD j .any = eS v j := by
  have : j = 0 := by omega
  subst this
  rfl
@[simp] theorem strs_lit3 {a b c : ByteArray} {m : List ByteArray} : Is (.lit 3 1 (rowsCell [[st a], [st b], [st c]])) (strs m) ↔ [a, b, c] = m := Is_lits (by decide) EncN.eS [a, b, c] m (fun v => [st v]) slit
@[simp] theorem strs_lit5 {a b c d e : ByteArray} {m : List ByteArray} : Is (.lit 5 1 (rowsCell [[st a], [st b], [st c], [st d], [st e]])) (strs m) ↔ [a, b, c, d, e] = m := Is_lits (by decide) EncN.eS [a, b, c, d, e] m (fun v => [st v]) slit
@[simp] theorem strs_lit4 {a b c d : ByteArray} {m : List ByteArray} : Is (.lit 4 1 (rowsCell [[st a], [st b], [st c], [st d]])) (strs m) ↔ [a, b, c, d] = m := Is_lits (by decide) EncN.eS [a, b, c, d] m (fun v => [st v]) slit
theorem k_of : SoundC Try.prog K_of.1 K_of.2 := sound_of hm (CtxOK.nil.and k_pick) (fun _ => []) (by kernel_rfl) fun ((b, p, l) : List Int × Int × List ByteArray) hb => (by
  obtain ⟨h1, h2, h3⟩ : Rd 1099511627776 b p ∧ l ≠ [] ∧ Sz l := hb
  rw [← vc_of b p l]
  simp [-List.getD_eq_getElem?_getD, -List.mem_cons, -Bool.forall_bool, -Bool.exists_bool, and_assoc, peta, tl_inj, ex_1, ex_2, ex_3, ex_4, ex_5, ex_6, ex_7, ex_8, ex_9, ey_2, ey_3, ey_4, ey_5, ey_6, ey_7, ey_8, ey_9]
  have h0 : 0 < l.length := List.length_pos_iff.2 h2
  refine ⟨h1, fun y hy _ => ?_⟩
  obtain ⟨h4, h5⟩ := hy (by omega)
  exact ⟨h4, h5, by omega, getD_mem _ (by omega)⟩)
/-- Rows that were written out, one by one. -/
def LitR {α : Type} (k : Nat) (e : α → Nat → AV) (d : α) (rows : List (List AV)) (l : List α) : Prop := rows.length = l.length ∧ ∀ i, i < l.length → ∀ j, j < k → Is ((rows.getD i []).getD j .any) (e (l.getD i d) j)
theorem LitR.nil {α : Type} {k : Nat} {e : α → Nat → AV} {d : α} : LitR k e d [] [] := ⟨rfl, fun i hi => by cases hi⟩
theorem LitR.cons {α : Type} {k : Nat} {e : α → Nat → AV} {d : α} {rows : List (List AV)} {l : List α} (h : LitR k e d rows l) {r : List AV} {v : α} (hr : ∀ j, j < k → Is (r.getD j .any) (e v j)) : LitR k e d (r :: rows) (v :: l) :=
  ⟨by simp [h.1], fun i hi j hj => by
    cases i with
    | zero => exact hr j hj
    | succ i => exact h.2 i (by simpa using hi) j hj⟩
theorem LitR.is {α : Type} {k : Nat} {e : α → Nat → AV} {d : α} {rows : List (List AV)} {l : List α} (h : LitR k e d rows l) : Is (.lit rows.length k (rowsCell rows)) (.sl l.length k fun i j => e (l.getD i d) j) :=
  Is_lit_of h.1 fun i hi j hj => h.2 i hi j hj
theorem rowY {a : ByteArray} {b : AV} {l : List Int} {c : Int} (hb : Is b (ints l)) : ∀ j, j < 3 → Is ([st a, b, i64 c].getD j .any) (eY (a, l, c) j) := Is_rowY hb
theorem ints_l0 {q : Nat} {c : Nat → Nat → AV} : Is (.lit 0 q c) (ints []) := ints_nil.2 rfl
theorem ints_l1 {a : Int} : Is (.lit 1 1 (rowsCell [[i64 a]])) (ints [a]) := ints_lit1.2 rfl
theorem ints_l2 {a b : Int} : Is (.lit 2 1 (rowsCell [[i64 a], [i64 b]])) (ints [a, b]) := ints_lit2.2 rfl
theorem base_small (k : Int) : SgB 5 2 (base k) := by
  unfold base
  split
  · exact ⟨by decide, by simp; decide⟩
  · split
    · exact ⟨by decide, by simp; decide⟩
    · split
      · exact ⟨by decide, by simp; decide⟩
      · split
        · exact ⟨by decide, by simp; decide⟩
        · exact ⟨by decide, by simp⟩
theorem k_l4Base : SoundC Try.prog K_l4Base.1 K_l4Base.2 := sound_of hm CtxOK.nil (fun _ => []) (by kernel_rfl) fun (k : Int) hb => (by
  rw [← vc_l4Base k]
  simp [-List.getD_eq_getElem?_getD, -List.mem_cons, -Bool.forall_bool, -Bool.exists_bool, and_assoc, peta, tl_inj, ex_1, ex_2, ex_3, ex_4, ex_5, ex_6, ex_7, ex_8, ex_9, ey_2, ey_3, ey_4, ey_5, ey_6, ey_7, ey_8, ey_9]
  refine ⟨fun h => ?_, fun h0 => ⟨fun h => ?_, fun h1 => ⟨fun h => ?_, fun h2 => ⟨fun h => ?_, fun h3 => ?_⟩⟩⟩⟩
  · unfold base; rw [if_pos h]
    exact (((((LitR.nil.cons (rowY ints_l2)).cons (rowY ints_l1)).cons (rowY ints_l0)).cons (rowY ints_l0)).cons (rowY ints_l0)).is
  · unfold base; rw [if_neg h0, if_pos h]
    exact (((((LitR.nil.cons (rowY ints_l0)).cons (rowY ints_l0)).cons (rowY ints_l1)).cons (rowY ints_l0)).cons (rowY ints_l0)).is
  · unfold base; rw [if_neg h0, if_neg h1, if_pos h]
    exact ((((LitR.nil.cons (rowY ints_l0)).cons (rowY ints_l0)).cons (rowY ints_l0)).cons (rowY ints_l1)).is
  · unfold base; rw [if_neg h0, if_neg h1, if_neg h2, if_pos h]
    exact (((((LitR.nil.cons (rowY ints_l0)).cons (rowY ints_l0)).cons (rowY ints_l2)).cons (rowY ints_l1)).cons (rowY ints_l0)).is
  · unfold base; rw [if_neg h0, if_neg h1, if_neg h2, if_neg h3])
theorem k_l4Sig : SoundC Try.prog K_l4Sig.1 K_l4Sig.2 := sound_of hm ((CtxOK.nil.and k_l4Base).and k_num) (fun _ => []) (by kernel_rfl) fun ((b, p) : List Int × Int) hb => (by
  replace hb : Rd 549755813888 b p := hb
  rw [← vc_l4Sig b p]
  simp [-List.getD_eq_getElem?_getD, -List.mem_cons, -Bool.forall_bool, -Bool.exists_bool, and_assoc, peta, tl_inj, ex_1, ex_2, ex_3, ex_4, ex_5, ex_6, ex_7, ex_8, ex_9, ey_2, ey_3, ey_4, ey_5, ey_6, ey_7, ey_8, ey_9]
  exact ⟨hb.to hb.2.2.1 (by have := hb.2.2.2; omega), fun y _ => base_small y⟩)
theorem IsR_store {α : Type} {k : Nat} {e : α → Nat → AV} {d : α} (he : EncN k e) {l : List α} {i0 off : Nat} {v : α} {vs : List AV}
    (h : ∀ j, j < k → Is (bif Nat.ble off j && Nat.blt j (off + vs.length) then vs.getD (j - off) .any else e (l.getD i0 d) j) (e v j)) : IsR k e d (storeC (fun i j => e (l.getD i d) j) i0 off vs) (l.set i0 v) := fun i hi j hj => by
  have hi' : i < l.length := by simpa using hi
  unfold storeC
  by_cases hii : i = i0
  · subst hii
    have e1 : (l.set i v).getD i d = v := by simp [hi']
    rw [e1, beq_iff.2 rfl, Bool.true_and]
    exact h j hj
  · have e1 : (l.set i0 v).getD i d = l.getD i d := by simp only [List.getD_eq_getElem?_getD, List.getElem?_set_ne (Ne.symm hii)]
    have e2 : Nat.beq i i0 = false := by
      cases hb : Nat.beq i i0
      · rfl
      · exact absurd (beq_iff.1 hb) hii
    rw [e1, e2]
    exact he.self _ hj
theorem IsO_xpush {α : Type} {k : Nat} {e : α → Nat → AV} {d : α} {l : List α} {n : Nat} {row : List AV} {v : α} (hn : n = l.length) (hs : ∀ x j, j < k → IsX (e x j) (e x j)) (hr : ∀ j, j < k → IsX (row.getD j .any) (e v j)) :
    IsO (.xarr (n + 1) k (joinC n (fun i j => e (l.getD i d) j) (rowsCell [row]))) (.xarr (l ++ [v]).length k fun i j => e ((l ++ [v]).getD i d) j) := by
  subst hn
  refine ⟨rfl, by simp, fun i hi j hj => ?_⟩
  by_cases h' : i < l.length
  · have e1 : (l ++ [v]).getD i d = l.getD i d := by simp only [List.getD_eq_getElem?_getD, List.getElem?_append_left h']
    show IsX (joinC l.length (fun i j => e (l.getD i d) j) (rowsCell [row]) i j) (e ((l ++ [v]).getD i d) j)
    unfold joinC
    rw [blt_true h', e1]
    exact hs _ j hj
  · have hi' : i = l.length := by omega
    subst hi'
    have e1 : (l ++ [v]).getD l.length d = v := by simp
    show IsX (joinC l.length (fun i j => e (l.getD i d) j) (rowsCell [row]) l.length j) (e ((l ++ [v]).getD l.length d) j)
    unfold joinC
    rw [blt_false h', e1, Nat.sub_self]
    exact hr j hj
theorem IsX_v (x : Value) : IsX (.v x) (.v x) := rfl
theorem IsX_intsS {v : List Int} : IsX (ints v) (ints v) := ⟨rfl, rfl, fun i hi j hj => EncN.eI.self _ hj⟩
theorem IsX_eY (x : Sym) (j : Nat) (hj : j < 3) : IsX (eY x j) (eY x j) := by
  match j, hj with
  | 0, _ => exact IsX_v _
  | 1, _ => exact IsX_intsS
  | 2, _ => exact IsX_v _
theorem xrY_push {l : List Sym} {n : Nat} {a : ByteArray} {v : List Int} {c : Int} (hn : n = l.length) : IsO (.xarr (n + 1) 3 (joinC n (cY l) (rowsCell [[st a, AV.sl v.length 1 (cI v), i64 c]]))) (xrY (l ++ [(a, v, c)])) :=
  IsO_xpush hn IsX_eY fun j hj => by
    match j, hj with
    | 0, _ => exact IsX_v _
    | 1, _ => exact IsX_intsS
    | 2, _ => exact IsX_v _
theorem mem_set_imp {α : Type} {q : α → Prop} {l : List α} {i : Nat} {v : α} (h : ∀ x ∈ l, q x) (hv : q v) : ∀ x ∈ l.set i v, q x := fun x hx => by
  rcases List.mem_or_eq_of_mem_set hx with e | e
  · exact h x e
  · rw [e]; exact hv
theorem mem_push_imp {α : Type} {q : α → Prop} {l : List α} {v : α} (h : ∀ x ∈ l, q x) (hv : q v) : ∀ x ∈ l ++ [v], q x := fun x hx => by
  rcases List.mem_append.1 hx with e | e
  · exact h x e
  · rw [List.mem_singleton.1 e]; exact hv
theorem _root_.Pl.SgB.mono {n k n' k' : Nat} {s : Pl.Sig} (h : SgB n k s) (h1 : n ≤ n') (h2 : k ≤ k') : SgB n' k' s := ⟨Nat.le_trans h.1 h1, fun x hx => ⟨(h.2 x hx).1, Nat.le_trans (h.2 x hx).2 h2⟩⟩
theorem _root_.Pl.SgB.set {n k : Nat} {s : Pl.Sig} (h : SgB n k s) {i : Nat} {x : Sym} (hx : x.1.size ≤ 10 ∧ x.2.1.length ≤ k) : SgB n k (s.set i x) := ⟨by simpa using h.1, mem_set_imp h.2 hx⟩
theorem _root_.Pl.SgB.push {n k : Nat} {s : Pl.Sig} (h : SgB n k s) {x : Sym} (hn : s.length < n) (hx : x.1.size ≤ 10 ∧ x.2.1.length ≤ k) : SgB n k (s ++ [x]) := ⟨by simp; omega, mem_push_imp h.2 hx⟩
theorem names5 : ∀ y ∈ [(⟨#[]⟩ : ByteArray), ⟨#[65]⟩, ⟨#[97, 98, 99]⟩, ⟨#[122, 122]⟩, ⟨#[97]⟩], y.size ≤ 10 := by decide
theorem names3 : ∀ y ∈ [(⟨#[97]⟩ : ByteArray), ⟨#[98]⟩, ⟨#[122]⟩], ((⟨#[122]⟩ : ByteArray) ++ y).size ≤ 10 ∧ y.size ≤ 10 := by decide
theorem k_l4Bent : SoundC Try.prog K_l4Bent.1 K_l4Bent.2 := sound_of hm (((CtxOK.nil.and k_of).and k_num).and k_pick) (fun (b, p, s, n, k) => A_l4Bent b p s n k) (by kernel_rfl) fun ((b, p, s, n, r) : List Int × Int × Pl.Sig × Nat × Nat) hb => (by
  obtain ⟨h1, h2, hn1, hn2, hr2⟩ : Rd 274877906944 b p ∧ SgB n r s ∧ 7 ≤ n ∧ n ≤ 14 ∧ r ≤ 8 := hb
  rw [← vc_l4Bent b p s n r]
  simp [-List.getD_eq_getElem?_getD, -List.mem_cons, -Bool.forall_bool, -Bool.exists_bool, and_assoc, peta, tl_inj, ex_1, ex_2, ex_3, ex_4, ex_5, ex_6, ex_7, ex_8, ex_9, ey_2, ey_3, ey_4, ey_5, ey_6, ey_7, ey_8, ey_9]
  obtain ⟨s1, s2⟩ : s.length ≤ n ∧ ∀ x ∈ s, x.1.size ≤ 10 ∧ x.2.1.length ≤ r := id h2
  have g3 := h1.2.2.1
  have g4 := h1.2.2.2
  have hB : SgB (n + 1) (r + 1) s := h2.mono (by omega) (by omega)
  refine ⟨⟨0, by omega, rfl, rfl, .inl rfl⟩, fun x hx => ⟨fun hlt => ?_, fun hge => ?_⟩⟩
  · have h3 := s2 _ (getD_mem dY hlt)
    refine ⟨hlt, by omega, by omega, by omega, by omega, by omega, wrap_succ hlt (by omega), ?_⟩
    rw [Pl.take_succ_getD dY hlt]
    exact xrY_push (by simp; omega)
  · obtain rfl : x = s.length := by omega
    rw [List.take_length, Nat.min_self]
    have hI : Is (AV.sl s.length 3 (cY s)) (syms s) := (syms_take (Nat.le_refl _)).2 List.take_length
    refine ⟨fun _ => ⟨s, hB, by omega, by omega, hI⟩, fun h0 => ⟨h1.to (by omega) (by omega), fun y y1 y2 => ⟨fun _ => ⟨s, hB, by omega, by omega, hI⟩, fun _ => ⟨h1.to (by omega) (by omega), fun k hk _ => ⟨h1.to (by omega) (by omega), fun z z1 z2 => ?_⟩⟩⟩⟩⟩
    obtain ⟨k1, k2⟩ := hk (by omega)
    have hkl : k.toNat < s.length := by omega
    have h3 := s2 _ (getD_mem dY hkl)
    have hsl : ∀ v : Sym, (s.set k.toNat v).length = s.length := fun v => by simp
    refine ⟨fun _ => ⟨h1.to (by omega) (by omega), fun nm hnm => ?_⟩, fun _ => ⟨fun _ => ?_, fun _ => ⟨fun _ => ⟨h1.to (by omega) (by omega), fun v hv => ?_⟩, fun _ => ⟨fun _ => ?_, fun _ => ⟨⟨s, hB, by omega, by omega, rfl, .inr rfl⟩, fun a q ha q1 q2 => ⟨fun hle => ⟨h1.to (by omega) (by omega), fun nm hnm => ?_⟩, fun _ => ⟨ha, by omega, by have := ha.1; omega⟩⟩⟩⟩⟩⟩⟩
    · exact ⟨by omega, by omega, by omega, _, hB.set (x := (nm, (s.getD k.toNat dY).2)) ⟨names5 nm hnm, Nat.le_trans h3.2 (by omega)⟩, by omega, by omega, by omega, Is_sl_of (hsl _).symm (IsR_store EncN.eY fun j hj => by
        match j, hj with
        | 0, _ => exact Is_st.2 rfl
        | 1, _ => exact EncN.eY.self _ (j := 1) (by decide)
        | 2, _ => exact EncN.eY.self _ (j := 2) (by decide))⟩
    · have main : ∀ v : Int, ∃ a, SgB (n + 1) (r + 1) a ∧ p ≤ p + 1 + 1 + 1 + 1 ∧ p + 1 + 1 + 1 + 1 ≤ p + 100 ∧ s.length ≤ s.length ∧ Is (AV.sl s.length 3 fun i j => storeC (cY s) k.toNat 1 [AV.sl ((s.getD k.toNat dY).snd.fst.length + 1) 1 (joinC (s.getD k.toNat dY).snd.fst.length (cI (s.getD k.toNat dY).snd.fst) (rowsCell [[i64 v]]))] i j) (syms a) := fun v =>
        ⟨_, hB.set (x := ((s.getD k.toNat dY).1, (s.getD k.toNat dY).2.1 ++ [v], (s.getD k.toNat dY).2.2)) ⟨h3.1, by dsimp only; rw [List.length_append, List.length_singleton]; omega⟩, by omega, by omega, by omega, Is_sl_of (hsl _).symm (IsR_store EncN.eY fun j hj => by
          match j, hj with
          | 0, _ => exact EncN.eY.self _ (j := 0) (by decide)
          | 1, _ => exact ((Rds.cel EncN.eI (s.getD k.toNat dY).2.1).join (Rds.row (ints_row v))).is
          | 2, _ => exact EncN.eY.self _ (j := 2) (by decide))⟩
      exact ⟨by omega, by omega, by omega, h1.to (by omega) (by omega), fun v _ => ⟨by omega, by omega, by omega, by omega, by omega, main v⟩, h1.to (by omega) (by omega), fun v _ => ⟨by omega, by omega, by omega, by omega, by omega, by omega, by omega, main v⟩⟩
    · exact ⟨by omega, by omega, by omega, _, hB.set (x := ((s.getD k.toNat dY).1, (s.getD k.toNat dY).2.1, v)) ⟨h3.1, Nat.le_trans h3.2 (by omega)⟩, by omega, by omega, by omega, Is_sl_of (hsl _).symm (IsR_store EncN.eY fun j hj => by
        match j, hj with
        | 0, _ => exact EncN.eY.self _ (j := 0) (by decide)
        | 1, _ => exact EncN.eY.self _ (j := 1) (by decide)
        | 2, _ => exact Is_i64.2 rfl)⟩
    · exact ⟨by omega, by omega, by omega, by omega, by omega, _, hB.push (x := s.getD k.toNat dY) (by omega) ⟨h3.1, by omega⟩, by omega, by omega, ((Rds.cel EncN.eY s).join (Rds.row (IsR_row EncN.eY (Is_rowY (Is_ints.2 rfl))))).is⟩
    · obtain ⟨e1, e2⟩ := names3 nm hnm
      refine ⟨by omega, by omega, _, ha.push (x := (⟨#[122]⟩ ++ nm, [], 0)) (by omega) ⟨e1, Nat.zero_le _⟩, by omega, ?_, ?_, by simp, IsO_join EncN.eY (IsR_row EncN.eY (Is_rowY (ints_nil.2 rfl)))⟩
      · simp; omega
      · simp; omega)
theorem sg_sm {n k : Nat} {s : Pl.Sig} (h : SgB n k s) (hn : n ≤ 100 := by decide) (hk : k ≤ 100 := by decide) : costG s ≤ 1048576 := by
  have : sumN costY s ≤ s.length * 110 := sumN_le fun x hx => by have := h.2 x hx; unfold costY; omega
  have h1 := h.1
  have : s.length * 110 ≤ 100 * 110 := Nat.mul_le_mul_right _ (by omega)
  unfold costG; omega
end Cg
