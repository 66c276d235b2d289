/-
  The abstract machine, part Tool. No condition.
-/
import Derived.Test.YtfgchlkagiihnaaMachC
import Derived.KernelRfl
set_option linter.unusedVariables false
set_option linter.unusedSimpArgs false
/-
  Encodings, and what they say of each other. No condition.
-/
set_option linter.unusedVariables false
set_option linter.unusedSimpArgs false
namespace Cg
open Go

def i64 (x : Int) : AV := .v (.int .i64 x)
def u8 (x : Int) : AV := .v (.int .u8 x)
def bl (x : Bool) : AV := .v (.bool x)
def st (x : ByteArray) : AV := .v (.string x)
def eI (x : Int) (_ : Nat) : AV := i64 x
def eU (x : Int) (_ : Nat) : AV := u8 x
def eB (x : Bool) (_ : Nat) : AV := bl x
def eS (x : ByteArray) (_ : Nat) : AV := st x
/-- A variable that was captured. -/
def refs (cs : List AV) : AV := .el 1 cs.length (fun _ j => cs.getD j .any) 0 0
/-- A frame of so many slots. -/
def pad (l : List AV) (n : Nat) : List AV := l ++ List.replicate (n - l.length) .any

/-- Equality that is not used before it is asked for. -/
def Eqq {α : Type} (a b : α) : Prop := a = b

/-- An encoding that loses nothing. -/
def Enc {α : Type} (e : α → AV) : Prop := ∀ x y, Is (e x) (e y) ↔ x = y
/-- An element's cells that lose nothing. -/
def EncN {α : Type} (k : Nat) (e : α → Nat → AV) : Prop := ∀ x y, (∀ j, j < k → Is (e x j) (e y j)) ↔ x = y

theorem EncN.one {α : Type} {e : α → AV} (he : Enc e) : EncN 1 (fun x _ => e x) := fun x y => by
  constructor
  · intro h; exact (he x y).1 (h 0 (by decide))
  · rintro rfl j _; exact (he x x).2 rfl

theorem Enc.i64 : Enc i64 := fun x y => by simp [Cg.i64, Is]
theorem Enc.u8 : Enc u8 := fun x y => by simp [Cg.u8, Is]
theorem Enc.bl : Enc bl := fun x y => by simp [Cg.bl, Is]
theorem Enc.st : Enc st := fun x y => by simp [Cg.st, Is]
theorem EncN.eI : EncN 1 eI := EncN.one Enc.i64
theorem EncN.eU : EncN 1 eU := EncN.one Enc.u8
theorem EncN.eB : EncN 1 eB := EncN.one Enc.bl
theorem EncN.eS : EncN 1 eS := EncN.one Enc.st
@[simp] theorem Is_i64 {x y : Int} : Is (i64 x) (i64 y) ↔ x = y := Enc.i64 x y
@[simp] theorem Is_u8 {x y : Int} : Is (u8 x) (u8 y) ↔ x = y := Enc.u8 x y
@[simp] theorem Is_bl {x y : Bool} : Is (bl x) (bl y) ↔ x = y := Enc.bl x y
@[simp] theorem Is_st {x y : ByteArray} : Is (st x) (st y) ↔ x = y := Enc.st x y

theorem list_eq_getD {α : Type} {l m : List α} (d : α) (h : l.length = m.length) (hi : ∀ i, i < l.length → l.getD i d = m.getD i d) : l = m := by
  refine List.ext_getElem h fun i h1 h2 => ?_
  have := hi i h1
  simpa [h1, h2] using this

section
variable {α : Type} {k : Nat} {e : α → Nat → AV} {d : α}

/-- A row of cells that reads as a list. -/
def IsR (k : Nat) (e : α → Nat → AV) (d : α) (c : Nat → Nat → AV) (m : List α) : Prop := ∀ i, i < m.length → ∀ j, j < k → Is (c i j) (e (m.getD i d) j)

theorem EncN.self (he : EncN k e) (x : α) {j : Nat} (hj : j < k) : Is (e x j) (e x j) := (he x x).2 rfl j hj

theorem IsR_cel (he : EncN k e) {m : List α} : IsR k e d (fun i j => e (m.getD i d) j) m := fun i _ j hj => he.self _ hj

theorem Is_sl_of {n : Nat} {c : Nat → Nat → AV} {m : List α} (hn : n = m.length) (h : IsR k e d c m) : Is (.sl n k c) (.sl m.length k fun i j => e (m.getD i d) j) := by
  subst hn
  rw [Is]
  exact ⟨rfl, .inr ⟨rfl, h⟩⟩
theorem Is_lit_of {n : Nat} {c : Nat → Nat → AV} {m : List α} (hn : n = m.length) (h : IsR k e d c m) : Is (.lit n k c) (.sl m.length k fun i j => e (m.getD i d) j) := by
  subst hn
  rw [Is]
  exact ⟨rfl, .inr ⟨rfl, h⟩⟩
theorem IsO_of {n : Nat} {c : Nat → Nat → AV} {m : List α} (hn : n = m.length) (h : IsR k e d c m) : IsO (.arr n k c) (.arr m.length k fun i j => e (m.getD i d) j) := by
  subst hn
  exact ⟨rfl, .inr ⟨rfl, h⟩⟩

/-- Where the cells are those of a list, they are those of no other. -/
theorem Is_sl_iff (hk : 0 < k) (he : EncN k e) {n : Nat} {l m : List α} {c : Nat → Nat → AV} (hl : n = l.length) (hc : ∀ i, i < l.length → ∀ j, j < k → c i j = e (l.getD i d) j) : Is (.sl n k c) (.sl m.length k fun i j => e (m.getD i d) j) ↔ l = m := by
  constructor
  · intro h
    rw [Is] at h
    obtain ⟨h1, h2⟩ := h
    refine list_eq_getD d (hl ▸ h1) fun i hi => ?_
    rcases h2 with h2 | ⟨_, h2⟩
    · omega
    · exact (he _ _).1 fun j hj => by have := h2 i (by omega) j hj; rw [hc i hi j hj] at this; exact this
  · rintro rfl
    exact Is_sl_of hl fun i hi j hj => by rw [hc i hi j hj]; exact he.self _ hj

theorem Enc.sln (hk : 0 < k) (he : EncN k e) (d : α) : Enc (fun l : List α => .sl l.length k fun i j => e (l.getD i d) j) := fun l m => Is_sl_iff hk he rfl fun _ _ _ _ => rfl

theorem IsO_arn (he : EncN k e) {l m : List α} : IsO (.arr l.length k fun i j => e (l.getD i d) j) (.arr m.length k fun i j => e (m.getD i d) j) ↔ m = [] ∨ l = m := by
  constructor
  · rintro ⟨_, h | ⟨h1, h2⟩⟩
    · exact .inl (List.eq_nil_of_length_eq_zero h)
    · exact .inr (list_eq_getD d h1 fun i hi => (he _ _).1 (h2 i hi))
  · rintro (rfl | rfl)
    · exact ⟨rfl, .inl rfl⟩
    · exact ⟨rfl, .inr ⟨rfl, fun i hi => (he _ _).2 rfl⟩⟩

theorem IsO_nil {n : Nat} {c c' : Nat → Nat → AV} : IsO (.arr n k c) (.arr 0 k c') := ⟨rfl, .inl rfl⟩

theorem nil_sln {q : Nat} {c : Nat → Nat → AV} {m : List α} : Is (.lit 0 q c) (.sl m.length k fun i j => e (m.getD i d) j) ↔ m = [] := by
  rw [Is]
  simp only [true_or, and_true]
  constructor
  · intro h; exact List.eq_nil_of_length_eq_zero h.symm
  · rintro rfl; rfl

theorem Is_take (hk : 0 < k) (he : EncN k e) {l m : List α} {n : Nat} (h : n ≤ l.length) : Is (.sl n k fun i j => e (l.getD i d) j) (.sl m.length k fun i j => e (m.getD i d) j) ↔ l.take n = m :=
  Is_sl_iff hk he (l := l.take n) (by simp; omega) fun i hi j hj => by
    have hi' : i < n := by simp at hi; omega
    simp only [List.getD_eq_getElem?_getD, List.getElem?_take, if_pos hi']

theorem Is_drop (hk : 0 < k) (he : EncN k e) {l m : List α} {n : Nat} : Is (.sl (l.length - n) k fun i j => e (l.getD (i + n) d) j) (.sl m.length k fun i j => e (m.getD i d) j) ↔ l.drop n = m :=
  Is_sl_iff hk he (l := l.drop n) (by simp) fun i hi j hj => by
    simp only [List.getD_eq_getElem?_getD, List.getElem?_drop, Nat.add_comm n i]

theorem Is_mid (hk : 0 < k) (he : EncN k e) {l m : List α} {a n : Nat} (h : a + n ≤ l.length) : Is (.sl n k fun i j => e (l.getD (i + a) d) j) (.sl m.length k fun i j => e (m.getD i d) j) ↔ (l.drop a).take n = m :=
  Is_sl_iff hk he (l := (l.drop a).take n) (by simp; omega) fun i hi j hj => by
    have hi' : i < n := by simp at hi; omega
    simp only [List.getD_eq_getElem?_getD, List.getElem?_take, if_pos hi', List.getElem?_drop, Nat.add_comm a i]

theorem blt_true {i n : Nat} (h : i < n) : Nat.blt i n = true := Nat.ble_eq_true_of_le h
theorem blt_false {i n : Nat} (h : ¬ i < n) : Nat.blt i n = false := by
  cases hb : Nat.blt i n
  · rfl
  · exact absurd (Nat.le_of_ble_eq_true hb) h

/-- A row that was laid behind another. -/
theorem IsO_join (he : EncN k e) {l m : List α} {b : Nat → Nat → AV} (hb : IsR k e d b m) :
    IsO (.arr (l.length + m.length) k (joinC l.length (fun i j => e (l.getD i d) j) b)) (.arr (l ++ m).length k fun i j => e ((l ++ m).getD i d) j) :=
  IsO_of (by simp) fun i hi j hj => by
    have hi' : i < l.length + m.length := by simpa using hi
    unfold joinC
    by_cases h : i < l.length
    · rw [blt_true h]
      simp only [cond_true, List.getD_eq_getElem?_getD, List.getElem?_append_left h]
      exact he.self _ hj
    · rw [blt_false h]
      simp only [cond_false]
      have e1 : (l ++ m).getD i d = m.getD (i - l.length) d := by simp only [List.getD_eq_getElem?_getD, List.getElem?_append_right (Nat.le_of_not_lt h)]
      rw [e1]; exact hb (i - l.length) (by omega) j hj

theorem IsO_join0 (he : EncN k e) {m : List α} {b c : Nat → Nat → AV} {n : Nat} (hb : IsR k e d b m) (hn : n = m.length := by simp) : IsO (.arr n k (joinC 0 c b)) (.arr m.length k fun i j => e (m.getD i d) j) :=
  IsO_of hn fun i hi j hj => by
    unfold joinC
    rw [blt_false (Nat.not_lt_zero i)]
    exact hb i hi j hj

theorem IsR_row (he : EncN k e) {v : α} {r : List AV} (h : ∀ j, j < k → Is (r.getD j .any) (e v j)) : IsR k e d (rowsCell [r]) [v] := fun i hi j hj => by
  have : i = 0 := by simpa using hi
  subst this
  exact h j hj

theorem Is_rows (hk : 0 < k) (he : EncN k e) {v : α} {m : List α} {r : List AV} (h : ∀ j, j < k → r.getD j .any = e v j) : Is (.lit 1 k (rowsCell [r])) (.sl m.length k fun i j => e (m.getD i d) j) ↔ [v] = m := by
  constructor
  · intro h'
    rw [Is] at h'
    obtain ⟨h1, h2⟩ := h'
    match m, h1 with
    | [x], _ =>
      congr 1
      refine (he v x).1 fun j hj => ?_
      rw [← h j hj]
      rcases h2 with h2 | ⟨_, h2⟩
      · omega
      · exact h2 0 (by omega) j hj
  · rintro rfl
    exact Is_lit_of rfl (IsR_row he fun j hj => by rw [h j hj]; exact he.self v hj)

/-- Rows that were written out. -/
theorem Is_lits (hk : 0 < k) (he : EncN k e) (l m : List α) (r : α → List AV) (h : ∀ v, ∀ j, j < k → (r v).getD j .any = e v j) : Is (.lit l.length k (rowsCell (l.map r))) (.sl m.length k fun i j => e (m.getD i d) j) ↔ l = m := by
  have hc : ∀ i, i < l.length → ∀ j, j < k → rowsCell (l.map r) i j = e (l.getD i d) j := fun i hi j hj => by
    unfold rowsCell
    have : (l.map r).getD i [] = r (l.getD i d) := by simp [hi]
    rw [this, h _ j hj]
  constructor
  · intro h
    rw [Is] at h
    obtain ⟨h1, h2⟩ := h
    refine list_eq_getD d h1 fun i hi => ?_
    rcases h2 with h2 | ⟨_, h2⟩
    · omega
    · exact (he _ _).1 fun j hj => by have := h2 i hi j hj; rw [hc i hi j hj] at this; exact this
  · rintro rfl
    exact Is_lit_of rfl fun i hi j hj => by rw [hc i hi j hj]; exact he.self _ hj

/-- So many rows of cells that read as a list. -/
def Rds (k : Nat) (e : α → Nat → AV) (d : α) (n : Nat) (c : Nat → Nat → AV) (m : List α) : Prop := n = m.length ∧ IsR k e d c m
theorem Rds.is {n : Nat} {c : Nat → Nat → AV} {m : List α} (h : Rds k e d n c m) : Is (.sl n k c) (.sl m.length k fun i j => e (m.getD i d) j) := Is_sl_of h.1 h.2
theorem Rds.iso {n : Nat} {c : Nat → Nat → AV} {m : List α} (h : Rds k e d n c m) : IsO (.arr n k c) (.arr m.length k fun i j => e (m.getD i d) j) := IsO_of h.1 h.2
theorem Rds.cel (he : EncN k e) (m : List α) : Rds k e d m.length (fun i j => e (m.getD i d) j) m := ⟨rfl, IsR_cel he⟩
theorem Rds.row {v : α} {r : List AV} (h : IsR k e d (rowsCell [r]) [v]) : Rds k e d 1 (rowsCell [r]) [v] := ⟨rfl, h⟩
theorem Rds.join {n n' : Nat} {c c' : Nat → Nat → AV} {m m' : List α} (h : Rds k e d n c m) (h' : Rds k e d n' c' m') : Rds k e d (n + n') (joinC n c c') (m ++ m') := by
  obtain ⟨rfl, h2⟩ := h
  obtain ⟨rfl, h4⟩ := h'
  refine ⟨by simp, fun i hi j hj => ?_⟩
  have hi' : i < m.length + m'.length := by simpa using hi
  unfold joinC
  by_cases h : i < m.length
  · rw [blt_true h]
    have e1 : (m ++ m').getD i d = m.getD i d := by simp only [List.getD_eq_getElem?_getD, List.getElem?_append_left h]
    rw [e1]; exact h2 i h j hj
  · rw [blt_false h]
    have e1 : (m ++ m').getD i d = m'.getD (i - m.length) d := by simp only [List.getD_eq_getElem?_getD, List.getElem?_append_right (Nat.le_of_not_lt h)]
    rw [e1]; exact h4 (i - m.length) (by omega) j hj
theorem Rds.drop (he : EncN k e) (l : List α) (x : Nat) : Rds k e d (l.length - x) (fun i j => e (l.getD (i + x) d) j) (l.drop x) := ⟨by simp, fun i hi j hj => by
  have e1 : (l.drop x).getD i d = l.getD (i + x) d := by simp only [List.getD_eq_getElem?_getD, List.getElem?_drop, Nat.add_comm x i]
  rw [e1]; exact he.self _ hj⟩
theorem Rds.take (he : EncN k e) {l : List α} {x : Nat} (h : x ≤ l.length) : Rds k e d x (fun i j => e (l.getD i d) j) (l.take x) := ⟨by simp; omega, fun i hi j hj => by
  have hx : i < x := by simp at hi; omega
  have e1 : (l.take x).getD i d = l.getD i d := by simp only [List.getD_eq_getElem?_getD, List.getElem?_take, if_pos hx]
  rw [e1]; exact he.self _ hj⟩
theorem Rds.nil {c : Nat → Nat → AV} : Rds k e d 0 c [] := ⟨rfl, fun i hi => by cases hi⟩
theorem Rds.cong {n n' : Nat} {c c' : Nat → Nat → AV} {m m' : List α} (h : Rds k e d n c m) (hn : n' = n) (hc : c' = c) (hm : m' = m) : Rds k e d n' c' m' := by subst hn; subst hc; subst hm; exact h

theorem IsO_set (he : EncN k e) {l : List α} {i : Nat} {v : α} {r : List AV} (hr : r.length = k) (h : ∀ j, j < k → Is (r.getD j .any) (e v j)) : IsO (.arr l.length k (storeC (fun i j => e (l.getD i d) j) i 0 r)) (.arr (l.set i v).length k fun i' j => e ((l.set i v).getD i' d) j) :=
  IsO_of (by simp) fun i' hi' j hj => by
    have hi'' : i' < l.length := by simpa using hi'
    unfold storeC
    by_cases hii : i' = i
    · subst hii
      have e1 : (l.set i' v).getD i' d = v := by simp [hi'']
      rw [e1, beq_iff.2 rfl, blt_true (by omega)]
      exact h j hj
    · have e1 : (l.set i v).getD i' d = l.getD i' d := by simp only [List.getD_eq_getElem?_getD, List.getElem?_set_ne (Ne.symm hii)]
      have e2 : Nat.beq i' i = false := by
        cases hb : Nat.beq i' i
        · rfl
        · exact absurd (beq_iff.1 hb) hii
      rw [e1, e2]
      exact he.self _ hj

theorem IsO_make (he : EncN k e) {n : Nat} {z : List AV} (h : ∀ j, j < k → Is (z.getD j .any) (e d j)) : IsO (.arr n k fun _ j => z.getD j .any) (.arr (List.replicate n d).length k fun i j => e ((List.replicate n d).getD i d) j) :=
  IsO_of (by simp) fun i hi j hj => by
    have e1 : (List.replicate n d).getD i d = d := by simp at hi; simp [hi]
    rw [e1]
    exact h j hj

end

@[simp] theorem Is_refs1 {a b : AV} : Is (refs [a]) (refs [b]) ↔ Is a b := by
  unfold refs
  rw [Is]
  simp only [List.length_singleton, true_and]
  exact ⟨fun h => h 0 (by omega) 0 (by omega), fun h i _ j hj => by have : j = 0 := by omega
                                                                    subst this; exact h⟩
@[simp] theorem Is_refs2 {a b a' b' : AV} : Is (refs [a, b]) (refs [a', b']) ↔ Is a a' ∧ Is b b' := by
  unfold refs
  rw [Is]
  simp only [List.length_cons, List.length_nil, true_and]
  exact ⟨fun h => ⟨h 0 (by omega) 0 (by omega), h 0 (by omega) 1 (by omega)⟩, fun h i _ j hj => by
    match j, hj with
    | 0, _ => exact h.1
    | 1, _ => exact h.2⟩
@[simp] theorem Is_refs3 {a b c a' b' c' : AV} : Is (refs [a, b, c]) (refs [a', b', c']) ↔ Is a a' ∧ Is b b' ∧ Is c c' := by
  unfold refs
  rw [Is]
  simp only [List.length_cons, List.length_nil, true_and]
  exact ⟨fun h => ⟨h 0 (by omega) 0 (by omega), h 0 (by omega) 1 (by omega), h 0 (by omega) 2 (by omega)⟩, fun h i _ j hj => by
    match j, hj with
    | 0, _ => exact h.1
    | 1, _ => exact h.2.1
    | 2, _ => exact h.2.2⟩

def cI (l : List Int) : Nat → Nat → AV := fun i j => eI (l.getD i 0) j
def ints (l : List Int) : AV := .sl l.length 1 fun i j => eI (l.getD i 0) j
def arI (l : List Int) : AObj := .arr l.length 1 fun i j => eI (l.getD i 0) j
theorem Enc.ints : Enc ints := Enc.sln (by decide) EncN.eI 0
@[simp] theorem Is_ints {x y : List Int} : Is (ints x) (ints y) ↔ x = y := Enc.ints x y
@[simp] theorem IsO_ints {x y : List Int} : IsO (arI x) (arI y) ↔ y = [] ∨ x = y := IsO_arn EncN.eI
@[simp] theorem IsO_ints0 {n : Nat} {c : Nat → Nat → AV} : IsO (.arr n 1 c) (arI []) := IsO_nil
@[simp] theorem ints_nil {q : Nat} {c : Nat → Nat → AV} {m : List Int} : Is (.lit 0 q c) (ints m) ↔ m = [] := nil_sln
@[simp] theorem ints_nilA {m : List Int} : Is nilA (ints m) ↔ m = [] := nil_sln
theorem ints_take {l m : List Int} {n : Nat} (h : n ≤ l.length) : Is (.sl n 1 (cI l)) (ints m) ↔ l.take n = m := Is_take (by decide) EncN.eI h
theorem ints_drop {l m : List Int} {n : Nat} : Is (.sl (l.length - n) 1 (fun i j => cI l (i + n) j)) (ints m) ↔ l.drop n = m := Is_drop (by decide) EncN.eI
theorem ints_mid {l m : List Int} {a n : Nat} (h : a + n ≤ l.length) : Is (.sl n 1 (fun i j => cI l (i + a) j)) (ints m) ↔ (l.drop a).take n = m := Is_mid (by decide) EncN.eI h
@[simp] theorem ints_join {l m : List Int} : IsO (.arr (l.length + m.length) 1 (joinC l.length (cI l) (cI m))) (arI (l ++ m)) := IsO_join EncN.eI (IsR_cel EncN.eI)
@[simp] theorem ints_join0 {m : List Int} {c : Nat → Nat → AV} : IsO (.arr (0 + m.length) 1 (joinC 0 c (cI m))) (arI m) := IsO_join0 EncN.eI (IsR_cel EncN.eI)
@[simp] theorem ints_join0' {m : List Int} {c : Nat → Nat → AV} : IsO (.arr m.length 1 (joinC 0 c (cI m))) (arI m) := IsO_join0 EncN.eI (IsR_cel EncN.eI)
theorem ints_row (v : Int) : IsR 1 eI 0 (rowsCell [[i64 v]]) [v] := IsR_row EncN.eI (fun j hj => by match j, hj with
    | 0, _ => exact (EncN.eI v v).2 rfl 0 (by decide))
@[simp] theorem ints_push {l : List Int} {v : Int} : IsO (.arr (l.length + 1) 1 (joinC l.length (cI l) (rowsCell [[i64 v]]))) (arI (l ++ [v])) := IsO_join EncN.eI (ints_row v)
@[simp] theorem ints_push0 {v : Int} {c : Nat → Nat → AV} : IsO (.arr (0 + 1) 1 (joinC 0 c (rowsCell [[i64 v]]))) (arI [v]) := IsO_join0 EncN.eI (ints_row v)
@[simp] theorem ints_push1 {v : Int} {c : Nat → Nat → AV} : IsO (.arr 1 1 (joinC 0 c (rowsCell [[i64 v]]))) (arI [v]) := IsO_join0 EncN.eI (ints_row v)
@[simp] theorem ints_set {l : List Int} {i : Nat} {v : Int} : IsO (.arr l.length 1 (storeC (cI l) i 0 [i64 v])) (arI (l.set i v)) := IsO_set EncN.eI rfl (fun j hj => by match j, hj with
    | 0, _ => exact (EncN.eI v v).2 rfl 0 (by decide))
@[simp] theorem ints_lit1 {v : Int} {m : List Int} : Is (.lit 1 1 (rowsCell [[i64 v]])) (ints m) ↔ [v] = m := Is_rows (by decide) EncN.eI (fun j hj => by match j, hj with
    | 0, _ => rfl)
@[simp] theorem ints_make {n : Nat} : IsO (.arr n 1 (fun _ j => [i64 0].getD j .any)) (arI (List.replicate n 0)) := IsO_make EncN.eI (fun j hj => by match j, hj with
    | 0, _ => first | exact (EncN.eI _ _).2 rfl 0 (by decide) | exact nil_sln.2 rfl)
def cU (l : List Int) : Nat → Nat → AV := fun i j => eU (l.getD i 0) j
def byts (l : List Int) : AV := .sl l.length 1 fun i j => eU (l.getD i 0) j
def arU (l : List Int) : AObj := .arr l.length 1 fun i j => eU (l.getD i 0) j
theorem Enc.byts : Enc byts := Enc.sln (by decide) EncN.eU 0
@[simp] theorem Is_byts {x y : List Int} : Is (byts x) (byts y) ↔ x = y := Enc.byts x y
@[simp] theorem IsO_byts {x y : List Int} : IsO (arU x) (arU y) ↔ y = [] ∨ x = y := IsO_arn EncN.eU
@[simp] theorem IsO_byts0 {n : Nat} {c : Nat → Nat → AV} : IsO (.arr n 1 c) (arU []) := IsO_nil
@[simp] theorem byts_nil {q : Nat} {c : Nat → Nat → AV} {m : List Int} : Is (.lit 0 q c) (byts m) ↔ m = [] := nil_sln
@[simp] theorem byts_nilA {m : List Int} : Is nilA (byts m) ↔ m = [] := nil_sln
theorem byts_take {l m : List Int} {n : Nat} (h : n ≤ l.length) : Is (.sl n 1 (cU l)) (byts m) ↔ l.take n = m := Is_take (by decide) EncN.eU h
theorem byts_drop {l m : List Int} {n : Nat} : Is (.sl (l.length - n) 1 (fun i j => cU l (i + n) j)) (byts m) ↔ l.drop n = m := Is_drop (by decide) EncN.eU
theorem byts_mid {l m : List Int} {a n : Nat} (h : a + n ≤ l.length) : Is (.sl n 1 (fun i j => cU l (i + a) j)) (byts m) ↔ (l.drop a).take n = m := Is_mid (by decide) EncN.eU h
@[simp] theorem byts_join {l m : List Int} : IsO (.arr (l.length + m.length) 1 (joinC l.length (cU l) (cU m))) (arU (l ++ m)) := IsO_join EncN.eU (IsR_cel EncN.eU)
@[simp] theorem byts_join0 {m : List Int} {c : Nat → Nat → AV} : IsO (.arr (0 + m.length) 1 (joinC 0 c (cU m))) (arU m) := IsO_join0 EncN.eU (IsR_cel EncN.eU)
@[simp] theorem byts_join0' {m : List Int} {c : Nat → Nat → AV} : IsO (.arr m.length 1 (joinC 0 c (cU m))) (arU m) := IsO_join0 EncN.eU (IsR_cel EncN.eU)
theorem byts_row (v : Int) : IsR 1 eU 0 (rowsCell [[u8 v]]) [v] := IsR_row EncN.eU (fun j hj => by match j, hj with
    | 0, _ => exact (EncN.eU v v).2 rfl 0 (by decide))
@[simp] theorem byts_push {l : List Int} {v : Int} : IsO (.arr (l.length + 1) 1 (joinC l.length (cU l) (rowsCell [[u8 v]]))) (arU (l ++ [v])) := IsO_join EncN.eU (byts_row v)
@[simp] theorem byts_push0 {v : Int} {c : Nat → Nat → AV} : IsO (.arr (0 + 1) 1 (joinC 0 c (rowsCell [[u8 v]]))) (arU [v]) := IsO_join0 EncN.eU (byts_row v)
@[simp] theorem byts_push1 {v : Int} {c : Nat → Nat → AV} : IsO (.arr 1 1 (joinC 0 c (rowsCell [[u8 v]]))) (arU [v]) := IsO_join0 EncN.eU (byts_row v)
@[simp] theorem byts_set {l : List Int} {i : Nat} {v : Int} : IsO (.arr l.length 1 (storeC (cU l) i 0 [u8 v])) (arU (l.set i v)) := IsO_set EncN.eU rfl (fun j hj => by match j, hj with
    | 0, _ => exact (EncN.eU v v).2 rfl 0 (by decide))
@[simp] theorem byts_lit1 {v : Int} {m : List Int} : Is (.lit 1 1 (rowsCell [[u8 v]])) (byts m) ↔ [v] = m := Is_rows (by decide) EncN.eU (fun j hj => by match j, hj with
    | 0, _ => rfl)
@[simp] theorem byts_make {n : Nat} : IsO (.arr n 1 (fun _ j => [u8 0].getD j .any)) (arU (List.replicate n 0)) := IsO_make EncN.eU (fun j hj => by match j, hj with
    | 0, _ => first | exact (EncN.eU _ _).2 rfl 0 (by decide) | exact nil_sln.2 rfl)
def cB (l : List Bool) : Nat → Nat → AV := fun i j => eB (l.getD i false) j
def bools (l : List Bool) : AV := .sl l.length 1 fun i j => eB (l.getD i false) j
def arB (l : List Bool) : AObj := .arr l.length 1 fun i j => eB (l.getD i false) j
theorem Enc.bools : Enc bools := Enc.sln (by decide) EncN.eB false
@[simp] theorem Is_bools {x y : List Bool} : Is (bools x) (bools y) ↔ x = y := Enc.bools x y
@[simp] theorem IsO_bools {x y : List Bool} : IsO (arB x) (arB y) ↔ y = [] ∨ x = y := IsO_arn EncN.eB
@[simp] theorem IsO_bools0 {n : Nat} {c : Nat → Nat → AV} : IsO (.arr n 1 c) (arB []) := IsO_nil
@[simp] theorem bools_nil {q : Nat} {c : Nat → Nat → AV} {m : List Bool} : Is (.lit 0 q c) (bools m) ↔ m = [] := nil_sln
@[simp] theorem bools_nilA {m : List Bool} : Is nilA (bools m) ↔ m = [] := nil_sln
theorem bools_take {l m : List Bool} {n : Nat} (h : n ≤ l.length) : Is (.sl n 1 (cB l)) (bools m) ↔ l.take n = m := Is_take (by decide) EncN.eB h
theorem bools_drop {l m : List Bool} {n : Nat} : Is (.sl (l.length - n) 1 (fun i j => cB l (i + n) j)) (bools m) ↔ l.drop n = m := Is_drop (by decide) EncN.eB
theorem bools_mid {l m : List Bool} {a n : Nat} (h : a + n ≤ l.length) : Is (.sl n 1 (fun i j => cB l (i + a) j)) (bools m) ↔ (l.drop a).take n = m := Is_mid (by decide) EncN.eB h
@[simp] theorem bools_join {l m : List Bool} : IsO (.arr (l.length + m.length) 1 (joinC l.length (cB l) (cB m))) (arB (l ++ m)) := IsO_join EncN.eB (IsR_cel EncN.eB)
@[simp] theorem bools_join0 {m : List Bool} {c : Nat → Nat → AV} : IsO (.arr (0 + m.length) 1 (joinC 0 c (cB m))) (arB m) := IsO_join0 EncN.eB (IsR_cel EncN.eB)
@[simp] theorem bools_join0' {m : List Bool} {c : Nat → Nat → AV} : IsO (.arr m.length 1 (joinC 0 c (cB m))) (arB m) := IsO_join0 EncN.eB (IsR_cel EncN.eB)
theorem bools_row (v : Bool) : IsR 1 eB false (rowsCell [[bl v]]) [v] := IsR_row EncN.eB (fun j hj => by match j, hj with
    | 0, _ => exact (EncN.eB v v).2 rfl 0 (by decide))
@[simp] theorem bools_push {l : List Bool} {v : Bool} : IsO (.arr (l.length + 1) 1 (joinC l.length (cB l) (rowsCell [[bl v]]))) (arB (l ++ [v])) := IsO_join EncN.eB (bools_row v)
@[simp] theorem bools_push0 {v : Bool} {c : Nat → Nat → AV} : IsO (.arr (0 + 1) 1 (joinC 0 c (rowsCell [[bl v]]))) (arB [v]) := IsO_join0 EncN.eB (bools_row v)
@[simp] theorem bools_push1 {v : Bool} {c : Nat → Nat → AV} : IsO (.arr 1 1 (joinC 0 c (rowsCell [[bl v]]))) (arB [v]) := IsO_join0 EncN.eB (bools_row v)
@[simp] theorem bools_set {l : List Bool} {i : Nat} {v : Bool} : IsO (.arr l.length 1 (storeC (cB l) i 0 [bl v])) (arB (l.set i v)) := IsO_set EncN.eB rfl (fun j hj => by match j, hj with
    | 0, _ => exact (EncN.eB v v).2 rfl 0 (by decide))
@[simp] theorem bools_lit1 {v : Bool} {m : List Bool} : Is (.lit 1 1 (rowsCell [[bl v]])) (bools m) ↔ [v] = m := Is_rows (by decide) EncN.eB (fun j hj => by match j, hj with
    | 0, _ => rfl)
@[simp] theorem bools_make {n : Nat} : IsO (.arr n 1 (fun _ j => [bl false].getD j .any)) (arB (List.replicate n false)) := IsO_make EncN.eB (fun j hj => by match j, hj with
    | 0, _ => first | exact (EncN.eB _ _).2 rfl 0 (by decide) | exact nil_sln.2 rfl)
def cS (l : List ByteArray) : Nat → Nat → AV := fun i j => eS (l.getD i ByteArray.empty) j
def strs (l : List ByteArray) : AV := .sl l.length 1 fun i j => eS (l.getD i ByteArray.empty) j
def arS (l : List ByteArray) : AObj := .arr l.length 1 fun i j => eS (l.getD i ByteArray.empty) j
theorem Enc.strs : Enc strs := Enc.sln (by decide) EncN.eS ByteArray.empty
@[simp] theorem Is_strs {x y : List ByteArray} : Is (strs x) (strs y) ↔ x = y := Enc.strs x y
@[simp] theorem IsO_strs {x y : List ByteArray} : IsO (arS x) (arS y) ↔ y = [] ∨ x = y := IsO_arn EncN.eS
@[simp] theorem IsO_strs0 {n : Nat} {c : Nat → Nat → AV} : IsO (.arr n 1 c) (arS []) := IsO_nil
@[simp] theorem strs_nil {q : Nat} {c : Nat → Nat → AV} {m : List ByteArray} : Is (.lit 0 q c) (strs m) ↔ m = [] := nil_sln
@[simp] theorem strs_nilA {m : List ByteArray} : Is nilA (strs m) ↔ m = [] := nil_sln
theorem strs_take {l m : List ByteArray} {n : Nat} (h : n ≤ l.length) : Is (.sl n 1 (cS l)) (strs m) ↔ l.take n = m := Is_take (by decide) EncN.eS h
theorem strs_drop {l m : List ByteArray} {n : Nat} : Is (.sl (l.length - n) 1 (fun i j => cS l (i + n) j)) (strs m) ↔ l.drop n = m := Is_drop (by decide) EncN.eS
theorem strs_mid {l m : List ByteArray} {a n : Nat} (h : a + n ≤ l.length) : Is (.sl n 1 (fun i j => cS l (i + a) j)) (strs m) ↔ (l.drop a).take n = m := Is_mid (by decide) EncN.eS h
@[simp] theorem strs_join {l m : List ByteArray} : IsO (.arr (l.length + m.length) 1 (joinC l.length (cS l) (cS m))) (arS (l ++ m)) := IsO_join EncN.eS (IsR_cel EncN.eS)
@[simp] theorem strs_join0 {m : List ByteArray} {c : Nat → Nat → AV} : IsO (.arr (0 + m.length) 1 (joinC 0 c (cS m))) (arS m) := IsO_join0 EncN.eS (IsR_cel EncN.eS)
@[simp] theorem strs_join0' {m : List ByteArray} {c : Nat → Nat → AV} : IsO (.arr m.length 1 (joinC 0 c (cS m))) (arS m) := IsO_join0 EncN.eS (IsR_cel EncN.eS)
theorem strs_row (v : ByteArray) : IsR 1 eS ByteArray.empty (rowsCell [[st v]]) [v] := IsR_row EncN.eS (fun j hj => by match j, hj with
    | 0, _ => exact (EncN.eS v v).2 rfl 0 (by decide))
@[simp] theorem strs_push {l : List ByteArray} {v : ByteArray} : IsO (.arr (l.length + 1) 1 (joinC l.length (cS l) (rowsCell [[st v]]))) (arS (l ++ [v])) := IsO_join EncN.eS (strs_row v)
@[simp] theorem strs_push0 {v : ByteArray} {c : Nat → Nat → AV} : IsO (.arr (0 + 1) 1 (joinC 0 c (rowsCell [[st v]]))) (arS [v]) := IsO_join0 EncN.eS (strs_row v)
@[simp] theorem strs_push1 {v : ByteArray} {c : Nat → Nat → AV} : IsO (.arr 1 1 (joinC 0 c (rowsCell [[st v]]))) (arS [v]) := IsO_join0 EncN.eS (strs_row v)
@[simp] theorem strs_set {l : List ByteArray} {i : Nat} {v : ByteArray} : IsO (.arr l.length 1 (storeC (cS l) i 0 [st v])) (arS (l.set i v)) := IsO_set EncN.eS rfl (fun j hj => by match j, hj with
    | 0, _ => exact (EncN.eS v v).2 rfl 0 (by decide))
@[simp] theorem strs_lit1 {v : ByteArray} {m : List ByteArray} : Is (.lit 1 1 (rowsCell [[st v]])) (strs m) ↔ [v] = m := Is_rows (by decide) EncN.eS (fun j hj => by match j, hj with
    | 0, _ => rfl)
@[simp] theorem strs_make {n : Nat} : IsO (.arr n 1 (fun _ j => [st ByteArray.empty].getD j .any)) (arS (List.replicate n ByteArray.empty)) := IsO_make EncN.eS (fun j hj => by match j, hj with
    | 0, _ => first | exact (EncN.eS _ _).2 rfl 0 (by decide) | exact nil_sln.2 rfl)
def eII (x : List Int) (_ : Nat) : AV := ints x
theorem EncN.eII : EncN 1 eII := EncN.one Enc.ints
def cII (l : List (List Int)) : Nat → Nat → AV := fun i j => eII (l.getD i []) j
def intss (l : List (List Int)) : AV := .sl l.length 1 fun i j => eII (l.getD i []) j
def arII (l : List (List Int)) : AObj := .arr l.length 1 fun i j => eII (l.getD i []) j
theorem Enc.intss : Enc intss := Enc.sln (by decide) EncN.eII []
@[simp] theorem Is_intss {x y : List (List Int)} : Is (intss x) (intss y) ↔ x = y := Enc.intss x y
@[simp] theorem IsO_intss {x y : List (List Int)} : IsO (arII x) (arII y) ↔ y = [] ∨ x = y := IsO_arn EncN.eII
@[simp] theorem IsO_intss0 {n : Nat} {c : Nat → Nat → AV} : IsO (.arr n 1 c) (arII []) := IsO_nil
@[simp] theorem intss_nil {q : Nat} {c : Nat → Nat → AV} {m : List (List Int)} : Is (.lit 0 q c) (intss m) ↔ m = [] := nil_sln
@[simp] theorem intss_nilA {m : List (List Int)} : Is nilA (intss m) ↔ m = [] := nil_sln
theorem intss_take {l m : List (List Int)} {n : Nat} (h : n ≤ l.length) : Is (.sl n 1 (cII l)) (intss m) ↔ l.take n = m := Is_take (by decide) EncN.eII h
theorem intss_drop {l m : List (List Int)} {n : Nat} : Is (.sl (l.length - n) 1 (fun i j => cII l (i + n) j)) (intss m) ↔ l.drop n = m := Is_drop (by decide) EncN.eII
theorem intss_mid {l m : List (List Int)} {a n : Nat} (h : a + n ≤ l.length) : Is (.sl n 1 (fun i j => cII l (i + a) j)) (intss m) ↔ (l.drop a).take n = m := Is_mid (by decide) EncN.eII h
@[simp] theorem intss_join {l m : List (List Int)} : IsO (.arr (l.length + m.length) 1 (joinC l.length (cII l) (cII m))) (arII (l ++ m)) := IsO_join EncN.eII (IsR_cel EncN.eII)
@[simp] theorem intss_join0 {m : List (List Int)} {c : Nat → Nat → AV} : IsO (.arr (0 + m.length) 1 (joinC 0 c (cII m))) (arII m) := IsO_join0 EncN.eII (IsR_cel EncN.eII)
@[simp] theorem intss_join0' {m : List (List Int)} {c : Nat → Nat → AV} : IsO (.arr m.length 1 (joinC 0 c (cII m))) (arII m) := IsO_join0 EncN.eII (IsR_cel EncN.eII)
theorem intss_row (v : (List Int)) : IsR 1 eII [] (rowsCell [[ints v]]) [v] := IsR_row EncN.eII (fun j hj => by match j, hj with
    | 0, _ => exact (EncN.eII v v).2 rfl 0 (by decide))
@[simp] theorem intss_push {l : List (List Int)} {v : (List Int)} : IsO (.arr (l.length + 1) 1 (joinC l.length (cII l) (rowsCell [[ints v]]))) (arII (l ++ [v])) := IsO_join EncN.eII (intss_row v)
@[simp] theorem intss_push0 {v : (List Int)} {c : Nat → Nat → AV} : IsO (.arr (0 + 1) 1 (joinC 0 c (rowsCell [[ints v]]))) (arII [v]) := IsO_join0 EncN.eII (intss_row v)
@[simp] theorem intss_push1 {v : (List Int)} {c : Nat → Nat → AV} : IsO (.arr 1 1 (joinC 0 c (rowsCell [[ints v]]))) (arII [v]) := IsO_join0 EncN.eII (intss_row v)
@[simp] theorem intss_set {l : List (List Int)} {i : Nat} {v : (List Int)} : IsO (.arr l.length 1 (storeC (cII l) i 0 [ints v])) (arII (l.set i v)) := IsO_set EncN.eII rfl (fun j hj => by match j, hj with
    | 0, _ => exact (EncN.eII v v).2 rfl 0 (by decide))
@[simp] theorem intss_lit1 {v : (List Int)} {m : List (List Int)} : Is (.lit 1 1 (rowsCell [[ints v]])) (intss m) ↔ [v] = m := Is_rows (by decide) EncN.eII (fun j hj => by match j, hj with
    | 0, _ => rfl)
@[simp] theorem intss_make {n : Nat} : IsO (.arr n 1 (fun _ j => [nilA].getD j .any)) (arII (List.replicate n [])) := IsO_make EncN.eII (fun j hj => by match j, hj with
    | 0, _ => first | exact (EncN.eII _ _).2 rfl 0 (by decide) | exact nil_sln.2 rfl)
def eIII (x : List (List Int)) (_ : Nat) : AV := intss x
theorem EncN.eIII : EncN 1 eIII := EncN.one Enc.intss
def cIII (l : List (List (List Int))) : Nat → Nat → AV := fun i j => eIII (l.getD i []) j
def intsss (l : List (List (List Int))) : AV := .sl l.length 1 fun i j => eIII (l.getD i []) j
def arIII (l : List (List (List Int))) : AObj := .arr l.length 1 fun i j => eIII (l.getD i []) j
theorem Enc.intsss : Enc intsss := Enc.sln (by decide) EncN.eIII []
@[simp] theorem Is_intsss {x y : List (List (List Int))} : Is (intsss x) (intsss y) ↔ x = y := Enc.intsss x y
@[simp] theorem IsO_intsss {x y : List (List (List Int))} : IsO (arIII x) (arIII y) ↔ y = [] ∨ x = y := IsO_arn EncN.eIII
@[simp] theorem IsO_intsss0 {n : Nat} {c : Nat → Nat → AV} : IsO (.arr n 1 c) (arIII []) := IsO_nil
@[simp] theorem intsss_nil {q : Nat} {c : Nat → Nat → AV} {m : List (List (List Int))} : Is (.lit 0 q c) (intsss m) ↔ m = [] := nil_sln
@[simp] theorem intsss_nilA {m : List (List (List Int))} : Is nilA (intsss m) ↔ m = [] := nil_sln
theorem intsss_take {l m : List (List (List Int))} {n : Nat} (h : n ≤ l.length) : Is (.sl n 1 (cIII l)) (intsss m) ↔ l.take n = m := Is_take (by decide) EncN.eIII h
theorem intsss_drop {l m : List (List (List Int))} {n : Nat} : Is (.sl (l.length - n) 1 (fun i j => cIII l (i + n) j)) (intsss m) ↔ l.drop n = m := Is_drop (by decide) EncN.eIII
theorem intsss_mid {l m : List (List (List Int))} {a n : Nat} (h : a + n ≤ l.length) : Is (.sl n 1 (fun i j => cIII l (i + a) j)) (intsss m) ↔ (l.drop a).take n = m := Is_mid (by decide) EncN.eIII h
@[simp] theorem intsss_join {l m : List (List (List Int))} : IsO (.arr (l.length + m.length) 1 (joinC l.length (cIII l) (cIII m))) (arIII (l ++ m)) := IsO_join EncN.eIII (IsR_cel EncN.eIII)
@[simp] theorem intsss_join0 {m : List (List (List Int))} {c : Nat → Nat → AV} : IsO (.arr (0 + m.length) 1 (joinC 0 c (cIII m))) (arIII m) := IsO_join0 EncN.eIII (IsR_cel EncN.eIII)
@[simp] theorem intsss_join0' {m : List (List (List Int))} {c : Nat → Nat → AV} : IsO (.arr m.length 1 (joinC 0 c (cIII m))) (arIII m) := IsO_join0 EncN.eIII (IsR_cel EncN.eIII)
theorem intsss_row (v : (List (List Int))) : IsR 1 eIII [] (rowsCell [[intss v]]) [v] := IsR_row EncN.eIII (fun j hj => by match j, hj with
    | 0, _ => exact (EncN.eIII v v).2 rfl 0 (by decide))
@[simp] theorem intsss_push {l : List (List (List Int))} {v : (List (List Int))} : IsO (.arr (l.length + 1) 1 (joinC l.length (cIII l) (rowsCell [[intss v]]))) (arIII (l ++ [v])) := IsO_join EncN.eIII (intsss_row v)
@[simp] theorem intsss_push0 {v : (List (List Int))} {c : Nat → Nat → AV} : IsO (.arr (0 + 1) 1 (joinC 0 c (rowsCell [[intss v]]))) (arIII [v]) := IsO_join0 EncN.eIII (intsss_row v)
@[simp] theorem intsss_push1 {v : (List (List Int))} {c : Nat → Nat → AV} : IsO (.arr 1 1 (joinC 0 c (rowsCell [[intss v]]))) (arIII [v]) := IsO_join0 EncN.eIII (intsss_row v)
@[simp] theorem intsss_set {l : List (List (List Int))} {i : Nat} {v : (List (List Int))} : IsO (.arr l.length 1 (storeC (cIII l) i 0 [intss v])) (arIII (l.set i v)) := IsO_set EncN.eIII rfl (fun j hj => by match j, hj with
    | 0, _ => exact (EncN.eIII v v).2 rfl 0 (by decide))
@[simp] theorem intsss_lit1 {v : (List (List Int))} {m : List (List (List Int))} : Is (.lit 1 1 (rowsCell [[intss v]])) (intsss m) ↔ [v] = m := Is_rows (by decide) EncN.eIII (fun j hj => by match j, hj with
    | 0, _ => rfl)
@[simp] theorem intsss_make {n : Nat} : IsO (.arr n 1 (fun _ j => [nilA].getD j .any)) (arIII (List.replicate n [])) := IsO_make EncN.eIII (fun j hj => by match j, hj with
    | 0, _ => first | exact (EncN.eIII _ _).2 rfl 0 (by decide) | exact nil_sln.2 rfl)
@[simp] theorem Is_lit0_nilA {k : Nat} {c : Nat → Nat → AV} : Is (.lit 0 k c) nilA := by unfold nilA; rw [Is]; exact ⟨rfl, .inl rfl⟩
@[simp] theorem Is_nilA_nilA : Is nilA nilA := Is_lit0_nilA
theorem ilit3 (v : List (List Int)) (j : Nat) (hj : j < 1) : [intss v].getD j .any = eIII v j := by
  have : j = 0 := by omega
  subst this
  rfl
@[simp] theorem intsss_lit2 {a b : List (List Int)} {m : List (List (List Int))} : Is (.lit 2 1 (rowsCell [[intss a], [intss b]])) (intsss m) ↔ [a, b] = m := Is_lits (by decide) EncN.eIII [a, b] m (fun v => [intss v]) ilit3
theorem ilit (v : Int) (j : Nat) (hj : j < 1) : [i64 v].getD j .any = eI v j := by
  have : j = 0 := by omega
  subst this
  rfl
@[simp] theorem ints_lit2 {a b : Int} {m : List Int} : Is (.lit 2 1 (rowsCell [[i64 a], [i64 b]])) (ints m) ↔ [a, b] = m := Is_lits (by decide) EncN.eI [a, b] m (fun v => [i64 v]) ilit
@[simp] theorem ints_lit3 {a b c : Int} {m : List Int} : Is (.lit 3 1 (rowsCell [[i64 a], [i64 b], [i64 c]])) (ints m) ↔ [a, b, c] = m := Is_lits (by decide) EncN.eI [a, b, c] m (fun v => [i64 v]) ilit
@[simp] theorem ints_lit4 {a b c d : Int} {m : List Int} : Is (.lit 4 1 (rowsCell [[i64 a], [i64 b], [i64 c], [i64 d]])) (ints m) ↔ [a, b, c, d] = m := Is_lits (by decide) EncN.eI [a, b, c, d] m (fun v => [i64 v]) ilit
@[simp] theorem ints_lit5 {a b c d e : Int} {m : List Int} : Is (.lit 5 1 (rowsCell [[i64 a], [i64 b], [i64 c], [i64 d], [i64 e]])) (ints m) ↔ [a, b, c, d, e] = m := Is_lits (by decide) EncN.eI [a, b, c, d, e] m (fun v => [i64 v]) ilit
@[simp] theorem ints_lit6 {a b c d e f : Int} {m : List Int} : Is (.lit 6 1 (rowsCell [[i64 a], [i64 b], [i64 c], [i64 d], [i64 e], [i64 f]])) (ints m) ↔ [a, b, c, d, e, f] = m := Is_lits (by decide) EncN.eI [a, b, c, d, e, f] m (fun v => [i64 v]) ilit
@[simp] theorem ints_lit7 {a b c d e f g : Int} {m : List Int} : Is (.lit 7 1 (rowsCell [[i64 a], [i64 b], [i64 c], [i64 d], [i64 e], [i64 f], [i64 g]])) (ints m) ↔ [a, b, c, d, e, f, g] = m := Is_lits (by decide) EncN.eI [a, b, c, d, e, f, g] m (fun v => [i64 v]) ilit
@[simp] theorem ints_lit8 {a b c d e f g h : Int} {m : List Int} : Is (.lit 8 1 (rowsCell [[i64 a], [i64 b], [i64 c], [i64 d], [i64 e], [i64 f], [i64 g], [i64 h]])) (ints m) ↔ [a, b, c, d, e, f, g, h] = m := Is_lits (by decide) EncN.eI [a, b, c, d, e, f, g, h] m (fun v => [i64 v]) ilit
/-! ### What is left to show -/
@[simp] theorem condP_iff (c : Bool) (a b : Prop) : condP c a b ↔ (c = true → a) ∧ (c = false → b) := by
  cases c <;> simp [condP]
theorem condP_dec {p : Prop} [h : Decidable p] (a b : Prop) : condP (@decide p h) a b ↔ (p → a) ∧ (¬ p → b) := by
  rw [condP_iff]; simp

theorem ex_1.{u} {α : Sort u} {P0 Q : α → Prop} {c : α} : (∃ x, P0 x ∧ c = x ∧ Q x) ↔ (P0 c ∧ Q c) := ⟨fun ⟨x, h0, e, q⟩ => by subst e; exact ⟨h0, q⟩, fun ⟨h0, q⟩ => ⟨c, h0, rfl, q⟩⟩
theorem ex_2.{u} {α : Sort u} {P0 P1 Q : α → Prop} {c : α} : (∃ x, P0 x ∧ P1 x ∧ c = x ∧ Q x) ↔ (P0 c ∧ P1 c ∧ Q c) := ⟨fun ⟨x, h0, h1, e, q⟩ => by subst e; exact ⟨h0, h1, q⟩, fun ⟨h0, h1, q⟩ => ⟨c, h0, h1, rfl, q⟩⟩
theorem ey_2.{u} {α : Sort u} {P0 P1 : α → Prop} {c : α} : (∃ x, P0 x ∧ P1 x ∧ c = x) ↔ (P0 c ∧ P1 c) := ⟨fun ⟨x, h0, h1, e⟩ => by subst e; exact ⟨h0, h1⟩, fun ⟨h0, h1⟩ => ⟨c, h0, h1, rfl⟩⟩
theorem ex_3.{u} {α : Sort u} {P0 P1 P2 Q : α → Prop} {c : α} : (∃ x, P0 x ∧ P1 x ∧ P2 x ∧ c = x ∧ Q x) ↔ (P0 c ∧ P1 c ∧ P2 c ∧ Q c) := ⟨fun ⟨x, h0, h1, h2, e, q⟩ => by subst e; exact ⟨h0, h1, h2, q⟩, fun ⟨h0, h1, h2, q⟩ => ⟨c, h0, h1, h2, rfl, q⟩⟩
theorem ey_3.{u} {α : Sort u} {P0 P1 P2 : α → Prop} {c : α} : (∃ x, P0 x ∧ P1 x ∧ P2 x ∧ c = x) ↔ (P0 c ∧ P1 c ∧ P2 c) := ⟨fun ⟨x, h0, h1, h2, e⟩ => by subst e; exact ⟨h0, h1, h2⟩, fun ⟨h0, h1, h2⟩ => ⟨c, h0, h1, h2, rfl⟩⟩
theorem ex_4.{u} {α : Sort u} {P0 P1 P2 P3 Q : α → Prop} {c : α} : (∃ x, P0 x ∧ P1 x ∧ P2 x ∧ P3 x ∧ c = x ∧ Q x) ↔ (P0 c ∧ P1 c ∧ P2 c ∧ P3 c ∧ Q c) := ⟨fun ⟨x, h0, h1, h2, h3, e, q⟩ => by subst e; exact ⟨h0, h1, h2, h3, q⟩, fun ⟨h0, h1, h2, h3, q⟩ => ⟨c, h0, h1, h2, h3, rfl, q⟩⟩
theorem ey_4.{u} {α : Sort u} {P0 P1 P2 P3 : α → Prop} {c : α} : (∃ x, P0 x ∧ P1 x ∧ P2 x ∧ P3 x ∧ c = x) ↔ (P0 c ∧ P1 c ∧ P2 c ∧ P3 c) := ⟨fun ⟨x, h0, h1, h2, h3, e⟩ => by subst e; exact ⟨h0, h1, h2, h3⟩, fun ⟨h0, h1, h2, h3⟩ => ⟨c, h0, h1, h2, h3, rfl⟩⟩
theorem ex_5.{u} {α : Sort u} {P0 P1 P2 P3 P4 Q : α → Prop} {c : α} : (∃ x, P0 x ∧ P1 x ∧ P2 x ∧ P3 x ∧ P4 x ∧ c = x ∧ Q x) ↔ (P0 c ∧ P1 c ∧ P2 c ∧ P3 c ∧ P4 c ∧ Q c) := ⟨fun ⟨x, h0, h1, h2, h3, h4, e, q⟩ => by subst e; exact ⟨h0, h1, h2, h3, h4, q⟩, fun ⟨h0, h1, h2, h3, h4, q⟩ => ⟨c, h0, h1, h2, h3, h4, rfl, q⟩⟩
theorem ey_5.{u} {α : Sort u} {P0 P1 P2 P3 P4 : α → Prop} {c : α} : (∃ x, P0 x ∧ P1 x ∧ P2 x ∧ P3 x ∧ P4 x ∧ c = x) ↔ (P0 c ∧ P1 c ∧ P2 c ∧ P3 c ∧ P4 c) := ⟨fun ⟨x, h0, h1, h2, h3, h4, e⟩ => by subst e; exact ⟨h0, h1, h2, h3, h4⟩, fun ⟨h0, h1, h2, h3, h4⟩ => ⟨c, h0, h1, h2, h3, h4, rfl⟩⟩
theorem ex_6.{u} {α : Sort u} {P0 P1 P2 P3 P4 P5 Q : α → Prop} {c : α} : (∃ x, P0 x ∧ P1 x ∧ P2 x ∧ P3 x ∧ P4 x ∧ P5 x ∧ c = x ∧ Q x) ↔ (P0 c ∧ P1 c ∧ P2 c ∧ P3 c ∧ P4 c ∧ P5 c ∧ Q c) := ⟨fun ⟨x, h0, h1, h2, h3, h4, h5, e, q⟩ => by subst e; exact ⟨h0, h1, h2, h3, h4, h5, q⟩, fun ⟨h0, h1, h2, h3, h4, h5, q⟩ => ⟨c, h0, h1, h2, h3, h4, h5, rfl, q⟩⟩
theorem ey_6.{u} {α : Sort u} {P0 P1 P2 P3 P4 P5 : α → Prop} {c : α} : (∃ x, P0 x ∧ P1 x ∧ P2 x ∧ P3 x ∧ P4 x ∧ P5 x ∧ c = x) ↔ (P0 c ∧ P1 c ∧ P2 c ∧ P3 c ∧ P4 c ∧ P5 c) := ⟨fun ⟨x, h0, h1, h2, h3, h4, h5, e⟩ => by subst e; exact ⟨h0, h1, h2, h3, h4, h5⟩, fun ⟨h0, h1, h2, h3, h4, h5⟩ => ⟨c, h0, h1, h2, h3, h4, h5, rfl⟩⟩
theorem ex_7.{u} {α : Sort u} {P0 P1 P2 P3 P4 P5 P6 Q : α → Prop} {c : α} : (∃ x, P0 x ∧ P1 x ∧ P2 x ∧ P3 x ∧ P4 x ∧ P5 x ∧ P6 x ∧ c = x ∧ Q x) ↔ (P0 c ∧ P1 c ∧ P2 c ∧ P3 c ∧ P4 c ∧ P5 c ∧ P6 c ∧ Q c) := ⟨fun ⟨x, h0, h1, h2, h3, h4, h5, h6, e, q⟩ => by subst e; exact ⟨h0, h1, h2, h3, h4, h5, h6, q⟩, fun ⟨h0, h1, h2, h3, h4, h5, h6, q⟩ => ⟨c, h0, h1, h2, h3, h4, h5, h6, rfl, q⟩⟩
theorem ey_7.{u} {α : Sort u} {P0 P1 P2 P3 P4 P5 P6 : α → Prop} {c : α} : (∃ x, P0 x ∧ P1 x ∧ P2 x ∧ P3 x ∧ P4 x ∧ P5 x ∧ P6 x ∧ c = x) ↔ (P0 c ∧ P1 c ∧ P2 c ∧ P3 c ∧ P4 c ∧ P5 c ∧ P6 c) := ⟨fun ⟨x, h0, h1, h2, h3, h4, h5, h6, e⟩ => by subst e; exact ⟨h0, h1, h2, h3, h4, h5, h6⟩, fun ⟨h0, h1, h2, h3, h4, h5, h6⟩ => ⟨c, h0, h1, h2, h3, h4, h5, h6, rfl⟩⟩
theorem ex_8.{u} {α : Sort u} {P0 P1 P2 P3 P4 P5 P6 P7 Q : α → Prop} {c : α} : (∃ x, P0 x ∧ P1 x ∧ P2 x ∧ P3 x ∧ P4 x ∧ P5 x ∧ P6 x ∧ P7 x ∧ c = x ∧ Q x) ↔ (P0 c ∧ P1 c ∧ P2 c ∧ P3 c ∧ P4 c ∧ P5 c ∧ P6 c ∧ P7 c ∧ Q c) := ⟨fun ⟨x, h0, h1, h2, h3, h4, h5, h6, h7, e, q⟩ => by subst e; exact ⟨h0, h1, h2, h3, h4, h5, h6, h7, q⟩, fun ⟨h0, h1, h2, h3, h4, h5, h6, h7, q⟩ => ⟨c, h0, h1, h2, h3, h4, h5, h6, h7, rfl, q⟩⟩
theorem ey_8.{u} {α : Sort u} {P0 P1 P2 P3 P4 P5 P6 P7 : α → Prop} {c : α} : (∃ x, P0 x ∧ P1 x ∧ P2 x ∧ P3 x ∧ P4 x ∧ P5 x ∧ P6 x ∧ P7 x ∧ c = x) ↔ (P0 c ∧ P1 c ∧ P2 c ∧ P3 c ∧ P4 c ∧ P5 c ∧ P6 c ∧ P7 c) := ⟨fun ⟨x, h0, h1, h2, h3, h4, h5, h6, h7, e⟩ => by subst e; exact ⟨h0, h1, h2, h3, h4, h5, h6, h7⟩, fun ⟨h0, h1, h2, h3, h4, h5, h6, h7⟩ => ⟨c, h0, h1, h2, h3, h4, h5, h6, h7, rfl⟩⟩
theorem ex_9.{u} {α : Sort u} {P0 P1 P2 P3 P4 P5 P6 P7 P8 Q : α → Prop} {c : α} : (∃ x, P0 x ∧ P1 x ∧ P2 x ∧ P3 x ∧ P4 x ∧ P5 x ∧ P6 x ∧ P7 x ∧ P8 x ∧ c = x ∧ Q x) ↔ (P0 c ∧ P1 c ∧ P2 c ∧ P3 c ∧ P4 c ∧ P5 c ∧ P6 c ∧ P7 c ∧ P8 c ∧ Q c) := ⟨fun ⟨x, h0, h1, h2, h3, h4, h5, h6, h7, h8, e, q⟩ => by subst e; exact ⟨h0, h1, h2, h3, h4, h5, h6, h7, h8, q⟩, fun ⟨h0, h1, h2, h3, h4, h5, h6, h7, h8, q⟩ => ⟨c, h0, h1, h2, h3, h4, h5, h6, h7, h8, rfl, q⟩⟩
theorem ey_9.{u} {α : Sort u} {P0 P1 P2 P3 P4 P5 P6 P7 P8 : α → Prop} {c : α} : (∃ x, P0 x ∧ P1 x ∧ P2 x ∧ P3 x ∧ P4 x ∧ P5 x ∧ P6 x ∧ P7 x ∧ P8 x ∧ c = x) ↔ (P0 c ∧ P1 c ∧ P2 c ∧ P3 c ∧ P4 c ∧ P5 c ∧ P6 c ∧ P7 c ∧ P8 c) := ⟨fun ⟨x, h0, h1, h2, h3, h4, h5, h6, h7, h8, e⟩ => by subst e; exact ⟨h0, h1, h2, h3, h4, h5, h6, h7, h8⟩, fun ⟨h0, h1, h2, h3, h4, h5, h6, h7, h8⟩ => ⟨c, h0, h1, h2, h3, h4, h5, h6, h7, h8, rfl⟩⟩

theorem getD_mem {α : Type} {l : List α} {k : Nat} (d : α) (h : k < l.length) : l.getD k d ∈ l := by simp [h]
theorem peta.{u, v} {α : Type u} {β : Type v} (p : α × β) : (p.1, p.2) = p := rfl
theorem tl_inj {a b : ByteArray} : a.toList = b.toList ↔ a = b := by
  constructor
  · intro h
    rw [ByteArray.toList_eq, ByteArray.toList_eq] at h
    obtain ⟨⟨x⟩⟩ := a
    obtain ⟨⟨y⟩⟩ := b
    simp at h
    rw [h]
  · rintro rfl; rfl

theorem wrap_succ {k n : Nat} (h : k < n) (hn : n ≤ 4294967296) : IntKind.i64.wrap ((k : Int) + 1) = ((k + 1 : Nat) : Int) := by
  rw [wrap_small (by omega) (by omega)]; omega

theorem drop_get {α : Type} {l : List α} {k : Nat} (d : α) (h : k < l.length) : l.drop k = l.getD k d :: l.drop (k + 1) := by
  rw [List.drop_eq_getElem_cons h]
  simp [h]
theorem drop_end {α : Type} {l : List α} {k : Nat} (h : ¬ k < l.length) : l.drop k = [] := List.drop_eq_nil_of_le (by omega)

/-! ### Contracts that hold below every bound -/
section
variable {P : Program} {f : FuncId} {X : Type}
theorem SoundC.fam {args : X → List AV} {pre : X → Prop} {res : X → AV} (m : X → Nat) (h : ∀ n, SoundC P f (.sc X args (fun x => pre x ∧ m x < n) res)) : SoundC P f (.sc X args pre res) :=
  ⟨(h 0).1, fun x hx => (h (m x + 1)).2 x ⟨hx, Nat.lt_succ_self _⟩⟩
theorem SoundC.famI {args : X → List AV} {pre : X → Prop} {res : X → AV} (m : X → Nat) (h : ∀ n, SoundC P f (.im X args (fun x => pre x ∧ m x < n) res)) : SoundC P f (.im X args pre res) :=
  ⟨(h 0).1, fun x hx => (h (m x + 1)).2 x ⟨hx, Nat.lt_succ_self _⟩⟩
theorem SoundC.famF {args : X → List AV} {pre : X → Prop} {res : X → AV} (m : X → Nat) (h : ∀ n, SoundC P f (.imf X args (fun x => pre x ∧ m x < n) res)) : SoundC P f (.imf X args pre res) :=
  ⟨(h 0).1, fun x hx => (h (m x + 1)).2 x ⟨hx, Nat.lt_succ_self _⟩⟩
theorem SoundC.famE {st : X → St} {pre : X → Prop} {Y : Type} {post : X → Y → Prop} {out : X → Y → AV × List AObj} (m : X → Nat) (h : ∀ n, SoundC P f (.eff X st (fun x => pre x ∧ m x < n) Y post out)) : SoundC P f (.eff X st pre Y post out) :=
  ⟨(h 0).1, fun x hx => (h (m x + 1)).2 x ⟨hx, Nat.lt_succ_self _⟩⟩
theorem SoundC.famZ {st : X → St} {pre : X → Prop} {Y : Type} {post : X → Y → Prop} {out : X → Y → AV × List AObj} (m : X → Nat) (h : ∀ n, SoundC P f (.efz X st (fun x => pre x ∧ m x < n) Y post out)) : SoundC P f (.efz X st pre Y post out) :=
  ⟨(h 0).1, fun x hx => (h (m x + 1)).2 x ⟨hx, Nat.lt_succ_self _⟩⟩
theorem SoundC.efz {st : X → St} {pre : X → Prop} {Y : Type} {post : X → Y → Prop} {out : X → Y → AV × List AObj} (h : SoundC P f (.eff X st pre Y post out)) : SoundC P f (.efz X st pre Y post out) := h
theorem SoundC.imf {args : X → List AV} {pre : X → Prop} {res : X → AV} (h : SoundC P f (.im X args pre res)) : SoundC P f (.imf X args pre res) := h
end

/-- What is left to show of a code, not to be opened by chance. -/
structure GoalW (P : Program) (Γ : Ctx) (an : List Ann) (f : FuncId) (c : Contract) (x : c.X) : Prop where
  get : Goal P Γ an f c x
theorem GoalW.of {P : Program} {Γ : Ctx} {an : List Ann} {f : FuncId} {c : Contract} {x : c.X} {p : Prop} (e : p = Goal P Γ an f c x) (h : p) : GoalW P Γ an f c x := ⟨e ▸ h⟩
theorem sound_ofW {P : Program} (hm : P.follows Departure.mixedOrders = true) {Γ : Ctx} (hΓ : CtxOK P Γ) {f : FuncId} {c : Contract} (an : c.X → List Ann) (hf : callableB P f = true)
    (h : ∀ x, c.pre x → GoalW P Γ (an x) f c x) : SoundC P f c := sound_of hm hΓ an hf fun x hx => (h x hx).get
end Cg
