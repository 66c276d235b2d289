/-
  Trees: a thing and the trees below it, and how they lie in cells. No condition.
-/
import Derived.Test.YtjhiaobcbbnhnaaGreatNums
set_option linter.unusedVariables false
set_option linter.unusedSimpArgs false
namespace Pl
inductive Tree (α : Type) where
  | mk (v : α) (ks : List (Tree α))
def Tree.val {α : Type} : Tree α → α
  | .mk v _ => v
def Tree.kids {α : Type} : Tree α → List (Tree α)
  | .mk _ ks => ks
@[simp] theorem Tree.eta {α : Type} (t : Tree α) : Tree.mk t.val t.kids = t := by cases t; rfl
@[simp] theorem Tree.val_mk {α : Type} (v : α) (ks : List (Tree α)) : (Tree.mk v ks).val = v := rfl
@[simp] theorem Tree.kids_mk {α : Type} (v : α) (ks : List (Tree α)) : (Tree.mk v ks).kids = ks := rfl
theorem Tree.ext {α : Type} {t u : Tree α} (h1 : t.val = u.val) (h2 : t.kids = u.kids) : t = u := by cases t; cases u; simp_all
noncomputable instance {α : Type} : DecidableEq (Tree α) := fun a b => Classical.propDecidable (a = b)
mutual
/-- How many there are in a tree, and in trees. -/
def Tree.many {α : Type} : Tree α → Nat
  | .mk _ ks => 1 + manyL ks
def manyL {α : Type} : List (Tree α) → Nat
  | [] => 0
  | t :: ts => t.many + manyL ts
end
theorem Tree.many_eq {α : Type} (t : Tree α) : t.many = 1 + manyL t.kids := by
  cases t with
  | mk v ks => simp only [Tree.many, Tree.kids]
theorem many_mem {α : Type} {t : Tree α} : ∀ {l : List (Tree α)}, t ∈ l → t.many ≤ manyL l
  | u :: r, h => by
    unfold manyL
    cases List.mem_cons.1 h with
    | inl e => subst e; omega
    | inr e => have := many_mem e; omega
theorem Tree.many_kid {α : Type} {t u : Tree α} (h : u ∈ t.kids) : u.many < t.many := by
  have := many_mem h
  rw [t.many_eq]; omega
theorem Tree.many_pos {α : Type} (t : Tree α) : 0 < t.many := by rw [t.many_eq]; omega
theorem many_len {α : Type} : ∀ (l : List (Tree α)), l.length ≤ manyL l
  | [] => Nat.le_refl _
  | t :: ts => by
    have := many_len ts
    have := t.many_pos
    simp only [List.length_cons, manyL]; omega
end Pl
namespace Cg
open Go Pl
mutual
def subTr {α : Type} (k : Nat) (e : α → Nat → AV) : Tree α → Nat → Nat → AV
  | .mk _ ks => rowsTr k e ks
def rowsTr {α : Type} (k : Nat) (e : α → Nat → AV) : List (Tree α) → Nat → Nat → AV
  | [] => fun _ _ => .any
  | t :: ts => fun i j => match i with
    | 0 => bif Nat.blt j k then e t.val j else .sl t.kids.length (k + 1) (subTr k e t)
    | i + 1 => rowsTr k e ts i j
end
/-- A tree's cells: those of its thing, and the trees below. -/
def eTr {α : Type} (k : Nat) (e : α → Nat → AV) (t : Tree α) (j : Nat) : AV := bif Nat.blt j k then e t.val j else .sl t.kids.length (k + 1) (subTr k e t)
section
variable {α : Type} {k : Nat} {e : α → Nat → AV}
theorem rowsTr_get (d : Tree α) : ∀ (l : List (Tree α)) (i : Nat), i < l.length → ∀ j, rowsTr k e l i j = eTr k e (l.getD i d) j
  | [], i, h, j => by cases h
  | t :: ts, 0, h, j => by simp only [rowsTr, eTr]; rfl
  | t :: ts, i + 1, h, j => by
    have := rowsTr_get d ts i (by simpa using h) j
    simp only [rowsTr, this, List.getD_cons_succ]
theorem subTr_get (d : Tree α) (t : Tree α) (i : Nat) (h : i < t.kids.length) (j : Nat) : subTr k e t i j = eTr k e (t.kids.getD i d) j := by
  cases t with
  | mk v ks => simp only [subTr]; exact rowsTr_get d ks i h j
theorem Is_sl_iff2 {β : Type} {q : Nat} {f : β → Nat → AV} {d : β} (hq : 0 < q) {l m : List β} (he : ∀ x ∈ l, ∀ y, (∀ j, j < q → Is (f x j) (f y j)) ↔ x = y) {c c' : Nat → Nat → AV} (hc : ∀ i, i < l.length → ∀ j, j < q → c i j = f (l.getD i d) j) (hc' : ∀ i, i < m.length → ∀ j, j < q → c' i j = f (m.getD i d) j) :
    Is (.sl l.length q c) (.sl m.length q c') ↔ l = m := by
  constructor
  · intro h
    rw [Is] at h
    obtain ⟨h1, h2⟩ := h
    refine list_eq_getD d h1 fun i hi => ?_
    rcases h2 with h2 | ⟨_, h2⟩
    · omega
    · refine (he _ (by simp [hi]) _).1 fun j hj => ?_
      have := h2 i hi j hj
      rw [hc i hi j hj, hc' i (by omega) j hj] at this
      exact this
  · rintro rfl
    rw [Is]
    exact ⟨rfl, .inr ⟨rfl, fun i hi j hj => by rw [hc i hi j hj, hc' i hi j hj]; exact (he _ (by simp [hi]) _).2 rfl j hj⟩⟩
/-- The same cells, said in another way. -/
theorem Is_sl_cell {n q : Nat} {c c' : Nat → Nat → AV} {a : AV} (h : ∀ i, i < n → ∀ j, j < q → c i j = c' i j) (ha : Is a (.sl n q c)) : Is a (.sl n q c') := by
  cases a with
  | sl n1 e1 c1 =>
    rw [Is] at ha ⊢
    obtain ⟨rfl, h2⟩ := ha
    refine ⟨rfl, h2.imp id fun h2 => ?_⟩
    obtain ⟨rfl, h3⟩ := h2
    exact ⟨rfl, fun i hi j hj => by rw [← h i hi j hj]; exact h3 i hi j hj⟩
  | lit n1 e1 c1 =>
    rw [Is] at ha ⊢
    obtain ⟨rfl, h2⟩ := ha
    refine ⟨rfl, h2.imp id fun h2 => ?_⟩
    obtain ⟨rfl, h3⟩ := h2
    exact ⟨rfl, fun i hi j hj => by rw [← h i hi j hj]; exact h3 i hi j hj⟩
  | _ => simp [Is] at ha
theorem eTr_lt {t : Tree α} {j : Nat} (h : j < k) : eTr k e t j = e t.val j := by unfold eTr; rw [blt_true h]; rfl
theorem eTr_kids {t : Tree α} : eTr k e t k = .sl t.kids.length (k + 1) (subTr k e t) := by unfold eTr; rw [blt_false (Nat.lt_irrefl k)]; rfl
theorem EncN.tr (he : EncN k e) : EncN (k + 1) (eTr k e) := fun x y => by
  have main : ∀ (n : Nat) (x y : Tree α), x.many ≤ n → ((∀ j, j < k + 1 → Is (eTr k e x j) (eTr k e y j)) ↔ x = y) := by
    intro n
    induction n with
    | zero => intro x y h; have := x.many_pos; omega
    | succ n ih =>
      intro x y hn
      have kids : ∀ z ∈ x.kids, ∀ w, (∀ j, j < k + 1 → Is (eTr k e z j) (eTr k e w j)) ↔ z = w := fun z hz w => ih z w (by have := Tree.many_kid hz; omega)
      have key : Is (.sl x.kids.length (k + 1) (subTr k e x)) (.sl y.kids.length (k + 1) (subTr k e y)) ↔ x.kids = y.kids :=
        Is_sl_iff2 (d := x) (Nat.succ_pos k) kids (fun i hi j _ => subTr_get x x i hi j) (fun i hi j _ => subTr_get x y i hi j)
      constructor
      · intro h
        refine Tree.ext ((he _ _).1 fun j hj => ?_) (key.1 ?_)
        · have := h j (by omega)
          rw [eTr_lt hj, eTr_lt hj] at this
          exact this
        · have := h k (by omega)
          rw [eTr_kids, eTr_kids] at this
          exact this
      · rintro rfl j hj
        by_cases hjk : j < k
        · rw [eTr_lt hjk]; exact (he _ _).2 rfl j hjk
        · have : j = k := by omega
          subst this
          rw [eTr_kids]
          exact key.2 rfl
  exact main x.many x y (Nat.le_refl _)
/-- The trees below, as they lie in a tree and as a list of their own. -/
theorem Is_kidsTr (he : EncN k e) (d : Tree α) {t : Tree α} {m : List (Tree α)} : Is (.sl t.kids.length (k + 1) (subTr k e t)) (.sl m.length (k + 1) fun i j => eTr k e (m.getD i d) j) ↔ t.kids = m :=
  Is_sl_iff2 (d := d) (Nat.succ_pos k) (fun x _ y => EncN.tr he x y) (fun i hi j _ => subTr_get d t i hi j) (fun i _ j _ => rfl)
theorem Is_kidsTr' (he : EncN k e) (d : Tree α) {t : Tree α} {m : List (Tree α)} : Is (.sl m.length (k + 1) fun i j => eTr k e (m.getD i d) j) (.sl t.kids.length (k + 1) (subTr k e t)) ↔ m = t.kids :=
  Is_sl_iff2 (d := d) (Nat.succ_pos k) (fun x _ y => EncN.tr he x y) (fun i _ j _ => rfl) (fun i hi j _ => subTr_get d t i hi j)
theorem Is_kidsTr2 (he : EncN k e) (d : Tree α) {t u : Tree α} : Is (.sl t.kids.length (k + 1) (subTr k e t)) (.sl u.kids.length (k + 1) (subTr k e u)) ↔ t.kids = u.kids :=
  Is_sl_iff2 (d := d) (Nat.succ_pos k) (fun x _ y => EncN.tr he x y) (fun i hi j _ => subTr_get d t i hi j) (fun i hi j _ => subTr_get d u i hi j)
end
end Cg
