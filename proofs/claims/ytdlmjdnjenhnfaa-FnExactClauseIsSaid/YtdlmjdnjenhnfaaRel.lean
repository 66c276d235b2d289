/-
  How abstract values stand to a world, carried from one world to a later one. No condition.
-/
import Derived.Test.YtdlmjdnjenhnfaaEval
namespace Cg
open Go

theorem RelI_mono {S S' : Nat → Prop} {w w' : World} (hS : ∀ b, S b → S' b) (hw : ∀ b, S b → w'.heap[b]? = w.heap[b]?) :
    ∀ (a : AV) (y : Value), RelI S w a y → RelI S' w' a y
  | .v _, _, h => h
  | .any, _, h => h
  | .sl n esz cell, y, h => by
    obtain ⟨a, cap, rfl, hcap, h⟩ := h
    refine ⟨a, cap, rfl, hcap, ?_⟩
    rcases h with h | ⟨b, off, ha, hb, c, T, fr, hc, hx⟩
    · exact .inl h
    · refine .inr ⟨b, off, ha, hS b hb, c, T, fr, by rw [hw b hb]; exact hc, fun i hi j hj => ?_⟩
      obtain ⟨x, h1, h2⟩ := hx i hi j hj
      exact ⟨x, h1, RelI_mono hS hw (cell i j) x h2⟩
  | .lit n esz cell, y, h => by
    obtain ⟨a, rfl, h⟩ := h
    refine ⟨a, rfl, ?_⟩
    rcases h with h | ⟨b, off, ha, hb, c, T, fr, hc, hx⟩
    · exact .inl h
    · refine .inr ⟨b, off, ha, hS b hb, c, T, fr, by rw [hw b hb]; exact hc, fun i hi j hj => ?_⟩
      obtain ⟨x, h1, h2⟩ := hx i hi j hj
      exact ⟨x, h1, RelI_mono hS hw (cell i j) x h2⟩
  | .agg _, _, h => h.elim
  | .tup _, _, h => h.elim
  | .el _ _ _ _ _, _, h => h.elim
  | .ptr _ _, _, h => h.elim
  | .osl _ _ _, _, h => h.elim
  | .oel _ _ _, _, h => h.elim
  | .fn _ _, _, h => h.elim

theorem RowI_mono {S S' : Nat → Prop} {w w' : World} (hS : ∀ b, S b → S' b) (hw : ∀ b, S b → w'.heap[b]? = w.heap[b]?) {b off n esz : Nat} {cell : Nat → Nat → AV}
    (h : RowI S w b off n esz cell) : RowI S' w' b off n esz cell := by
  obtain ⟨hb, c, T, fr, hc, hx⟩ := h
  refine ⟨hS b hb, c, T, fr, by rw [hw b hb]; exact hc, fun i hi j hj => ?_⟩
  obtain ⟨x, h1, h2⟩ := hx i hi j hj
  exact ⟨x, h1, RelI_mono hS hw _ _ h2⟩

mutual
theorem Rel_mono {S S' : Nat → Prop} {μ μ' : Nat → OI} {w w' : World} (hS : ∀ b, S b → S' b) (hw : ∀ b, S b → w'.heap[b]? = w.heap[b]?) :
    ∀ (a : AV) (y : Value), (∀ o, ment o a = true → μ' o = μ o) → Rel S μ w a y → Rel S' μ' w' a y
  | .v _, _, _, h => h
  | .any, _, _, _ => trivial
  | .agg cs, y, hm, h => by
    obtain ⟨vs, rfl, h⟩ := h
    exact ⟨vs, rfl, RelL_mono hS hw cs vs (fun o ho => hm o (by simpa [ment] using ho)) h⟩
  | .tup cs, y, hm, h => by
    obtain ⟨vs, rfl, h⟩ := h
    exact ⟨vs, rfl, RelL_mono hS hw cs vs (fun o ho => hm o (by simpa [ment] using ho)) h⟩
  | .fn f cs, y, hm, h => by
    obtain ⟨vs, rfl, h⟩ := h
    exact ⟨vs, rfl, RelL_mono hS hw cs vs (fun o ho => hm o (by simpa [ment] using ho)) h⟩
  | .sl n esz cell, y, _, h => RelI_mono hS hw _ _ h
  | .lit n esz cell, y, _, h => RelI_mono hS hw _ _ h
  | .el n esz cell i off, y, _, h => by obtain ⟨b, o, h1, h2⟩ := h; exact ⟨b, o, h1, RowI_mono hS hw h2⟩
  | .ptr o off, y, hm, h => by have := hm o (by simp [ment]); unfold Rel at *; rw [this]; exact h
  | .osl o lo n, y, hm, h => by have := hm o (by simp [ment]); unfold Rel at *; rw [this]; exact h
  | .oel o i off, y, hm, h => by have := hm o (by simp [ment]); unfold Rel at *; rw [this]; exact h
theorem RelL_mono {S S' : Nat → Prop} {μ μ' : Nat → OI} {w w' : World} (hS : ∀ b, S b → S' b) (hw : ∀ b, S b → w'.heap[b]? = w.heap[b]?) :
    ∀ (as : List AV) (ys : List Value), (∀ o, mentL o as = true → μ' o = μ o) → RelL S μ w as ys → RelL S' μ' w' as ys
  | [], _, _, h => h
  | a :: as, ys, hm, h => by
    obtain ⟨y, r, rfl, h1, h2⟩ := h
    exact ⟨y, r, rfl, Rel_mono hS hw a y (fun o ho => hm o (by simp [mentL, ho])) h1, RelL_mono hS hw as r (fun o ho => hm o (by simp [mentL, ho])) h2⟩
end

section
variable {S : Nat → Prop} {μ : Nat → OI} {w : World}

theorem RelL_length : ∀ {as : List AV} {ys : List Value}, RelL S μ w as ys → ys.length = as.length
  | [], _, h => by cases h; rfl
  | _ :: as, _, h => by obtain ⟨y, r, rfl, _, h2⟩ := h; simp [RelL_length h2]

theorem RelL_get : ∀ {as : List AV} {ys : List Value} (_ : RelL S μ w as ys) {i : Nat} {a : AV}, as[i]? = some a → ∃ y, ys[i]? = some y ∧ Rel S μ w a y
  | [], _, _, _, _, hi => by simp at hi
  | _ :: as, _, h, i, a, hi => by
    obtain ⟨y, r, rfl, h1, h2⟩ := h
    cases i with
    | zero => simp at hi; subst hi; exact ⟨y, by simp, h1⟩
    | succ i => simp at hi ⊢; exact RelL_get h2 hi

theorem RelL_of : ∀ {as : List AV} {ys : List Value}, ys.length = as.length → (∀ (i : Nat) (a : AV) (y : Value), as[i]? = some a → ys[i]? = some y → Rel S μ w a y) → RelL S μ w as ys
  | [], ys, hl, _ => by simpa [RelL] using hl
  | a :: as, [], hl, _ => by simp at hl
  | a :: as, y :: ys, hl, h => ⟨y, ys, rfl, h 0 a y (by simp) (by simp), RelL_of (by simpa using hl) fun i a' y' h1 h2 => h (i + 1) a' y' (by simpa using h1) (by simpa using h2)⟩

theorem RelL_set {as : List AV} {ys : List Value} (h : RelL S μ w as ys) (k : Nat) {a : AV} {y : Value} (ha : Rel S μ w a y) : RelL S μ w (as.set k a) (ys.set k y) := by
  refine RelL_of (by simp [RelL_length h]) fun i a' y' h1 h2 => ?_
  rw [List.getElem?_set] at h1 h2
  by_cases hk : k = i
  · subst hk
    simp only [if_true] at h1 h2
    split at h1
    · split at h2
      · cases h1; cases h2; exact ha
      · cases h2
    · cases h1
  · simp only [hk, if_false] at h1 h2
    obtain ⟨y'', h3, h4⟩ := RelL_get h h1
    rw [h2] at h3
    cases h3
    exact h4

theorem RelL_append {as bs : List AV} {ys zs : List Value} (h : RelL S μ w as ys) (h' : RelL S μ w bs zs) : RelL S μ w (as ++ bs) (ys ++ zs) := by
  induction as generalizing ys with
  | nil => cases h; simpa using h'
  | cons a as ih => obtain ⟨y, r, rfl, h1, h2⟩ := h; exact ⟨y, r ++ zs, rfl, h1, ih h2⟩

theorem RelL_map {α : Type} (l : List α) (f : α → AV) (g : α → Value) (h : ∀ x, x ∈ l → Rel S μ w (f x) (g x)) : RelL S μ w (l.map f) (l.map g) := by
  induction l with
  | nil => rfl
  | cons x l ih => exact ⟨g x, l.map g, rfl, h x (by simp), ih fun z hz => h z (by simp [hz])⟩

theorem RelL_take {as : List AV} {ys : List Value} (h : RelL S μ w as ys) (n : Nat) : RelL S μ w (as.take n) (ys.take n) := by
  refine RelL_of (by simp [RelL_length h]) fun i a y h1 h2 => ?_
  rw [List.getElem?_take] at h1 h2
  split at h1
  · rename_i hi
    rw [if_pos hi] at h2
    obtain ⟨y', h3, h4⟩ := RelL_get h h1
    rw [h2] at h3; cases h3; exact h4
  · cases h1

theorem RelL_drop {as : List AV} {ys : List Value} (h : RelL S μ w as ys) (n : Nat) : RelL S μ w (as.drop n) (ys.drop n) := by
  refine RelL_of (by simp [RelL_length h]) fun i a y h1 h2 => ?_
  rw [List.getElem?_drop] at h1 h2
  obtain ⟨y', h3, h4⟩ := RelL_get h h1
  rw [h2] at h3; cases h3; exact h4

theorem RelL_replicate {a : AV} {y : Value} (h : Rel S μ w a y) (n : Nat) : RelL S μ w (List.replicate n a) (List.replicate n y) := by
  induction n with
  | zero => rfl
  | succ n ih => exact ⟨y, List.replicate n y, rfl, h, ih⟩

/-- A memory that stays as it is is read the same by its own reading. -/
theorem Rel_of_RelI : ∀ {a : AV} {y : Value}, RelI S w a y → Rel S μ w a y
  | .v _, _, h => h.1
  | .any, _, _ => trivial
  | .sl _ _ _, _, h => h
  | .lit _ _ _, _, h => h
  | .agg _, _, h => h.elim
  | .tup _, _, h => h.elim
  | .el _ _ _ _ _, _, h => h.elim
  | .ptr _ _, _, h => h.elim
  | .osl _ _ _, _, h => h.elim
  | .oel _ _ _, _, h => h.elim
  | .fn _ _, _, h => h.elim

theorem RelI_of_Rel : ∀ {a : AV} {y : Value}, isImm a = true → isOne y = true → Rel S μ w a y → RelI S w a y
  | .v _, _, _, h1, h => ⟨h, h1⟩
  | .any, _, _, h1, _ => h1
  | .sl _ _ _, _, _, _, h => h
  | .lit _ _ _, _, _, _, h => h
  | .agg _, _, h, _, _ => by simp [isImm] at h
  | .tup _, _, h, _, _ => by simp [isImm] at h
  | .el _ _ _ _ _, _, h, _, _ => by simp [isImm] at h
  | .ptr _ _, _, h, _, _ => by simp [isImm] at h
  | .osl _ _ _, _, h, _, _ => by simp [isImm] at h
  | .oel _ _ _, _, h, _, _ => by simp [isImm] at h
  | .fn _ _, _, h, _, _ => by simp [isImm] at h

theorem RelI_one : ∀ {a : AV} {y : Value}, RelI S w a y → isOne y = true
  | .v _, _, h => h.2
  | .any, _, h => h
  | .sl _ _ _, _, h => by obtain ⟨_, _, rfl, _⟩ := h; rfl
  | .lit _ _ _, _, h => by obtain ⟨_, rfl, _⟩ := h; rfl
  | .agg _, _, h => h.elim
  | .tup _, _, h => h.elim
  | .el _ _ _ _ _, _, h => h.elim
  | .ptr _ _, _, h => h.elim
  | .osl _ _ _, _, h => h.elim
  | .oel _ _ _, _, h => h.elim
  | .fn _ _, _, h => h.elim

theorem Rel_one : ∀ {a : AV} {y : Value}, oneA a = true → Rel S μ w a y → isOne y = true
  | .v _, _, h1, h => by cases h; exact h1
  | .any, _, h1, _ => by simp [oneA] at h1
  | .sl _ _ _, _, _, h => RelI_one h
  | .lit _ _ _, _, _, h => RelI_one h
  | .agg _, _, h1, _ => by simp [oneA] at h1
  | .tup _, _, h1, _ => by simp [oneA] at h1
  | .el _ _ _ _ _, _, _, h => by obtain ⟨_, _, rfl, _⟩ := h; rfl
  | .ptr _ _, _, _, h => by obtain ⟨_, _, rfl⟩ := h; rfl
  | .osl _ _ _, _, _, h => by
    unfold Rel at h
    split at h
    · obtain ⟨_, _, _, rfl⟩ := h; rfl
    · obtain ⟨_, _, rfl, _⟩ := h; rfl
  | .oel _ _ _, _, _, h => by obtain ⟨_, _, _, rfl⟩ := h; rfl
  | .fn _ _, _, _, h => by obtain ⟨_, rfl, _⟩ := h; rfl

/-- What names no object reads the same whatever the names stand for. -/
theorem Rel_imm {μ' : Nat → OI} : ∀ {a : AV} {y : Value}, isImm a = true → Rel S μ w a y → Rel S μ' w a y
  | .v _, _, _, h => h
  | .any, _, _, _ => trivial
  | .sl _ _ _, _, _, h => h
  | .lit _ _ _, _, _, h => h
  | .agg _, _, h, _ => by simp [isImm] at h
  | .tup _, _, h, _ => by simp [isImm] at h
  | .el _ _ _ _ _, _, h, _ => by simp [isImm] at h
  | .ptr _ _, _, h, _ => by simp [isImm] at h
  | .osl _ _ _, _, h, _ => by simp [isImm] at h
  | .oel _ _ _, _, h, _ => by simp [isImm] at h
  | .fn _ _, _, h, _ => by simp [isImm] at h

end

/-! ### Which names occur -/

theorem mentL_get {k : Nat} : ∀ {l : List AV} {i : Nat} {a : AV}, mentL k l = false → l[i]? = some a → ment k a = false
  | [], _, _, _, h => by simp at h
  | b :: l, i, a, h, hi => by
    simp only [mentL, Bool.or_eq_false_iff] at h
    cases i with
    | zero => simp at hi; subst hi; exact h.1
    | succ i => simp at hi; exact mentL_get h.2 hi

theorem mentL_of {k : Nat} : ∀ {l : List AV}, (∀ a, a ∈ l → ment k a = false) → mentL k l = false
  | [], _ => rfl
  | b :: l, h => by simp only [mentL, Bool.or_eq_false_iff]; exact ⟨h b (by simp), mentL_of fun a ha => h a (by simp [ha])⟩

theorem mentL_mem {k : Nat} {l : List AV} (h : mentL k l = false) {a : AV} (ha : a ∈ l) : ment k a = false := by
  obtain ⟨i, hi⟩ := List.getElem?_of_mem ha
  exact mentL_get h hi

theorem mentL_append {k : Nat} {l r : List AV} (h : mentL k l = false) (h' : mentL k r = false) : mentL k (l ++ r) = false :=
  mentL_of fun a ha => by rcases List.mem_append.1 ha with h1 | h1 <;> first | exact mentL_mem h h1 | exact mentL_mem h' h1

theorem mentL_set {k : Nat} {l : List AV} (h : mentL k l = false) (i : Nat) {a : AV} (ha : ment k a = false) : mentL k (l.set i a) = false :=
  mentL_of fun b hb => by
    rcases List.mem_or_eq_of_mem_set hb with h1 | h1
    · exact mentL_mem h h1
    · rw [h1]; exact ha

theorem mentL_take {k : Nat} {l : List AV} (h : mentL k l = false) (n : Nat) : mentL k (l.take n) = false := mentL_of fun _ ha => mentL_mem h (List.mem_of_mem_take ha)
theorem mentL_drop {k : Nat} {l : List AV} (h : mentL k l = false) (n : Nat) : mentL k (l.drop n) = false := mentL_of fun _ ha => mentL_mem h (List.mem_of_mem_drop ha)

theorem ment_nilA (k : Nat) : ment k nilA = false := rfl

theorem ment_ofCell (k : Nat) (x : Value) : ment k (ofCell x) = false := by unfold ofCell; split <;> rfl

theorem ment_ofConst (k : Nat) (x : Value) : ment k (ofConst x) = false := by
  unfold ofConst
  split
  · rfl
  · simp only [ment]; exact mentL_of fun a ha => by obtain ⟨x, _, rfl⟩ := List.mem_map.1 ha; exact ment_ofCell k x
  · rfl

theorem ment_ev {k : Nat} {fr : List AV} (h : mentL k fr = false) (x : Operand) : ment k (ev fr x) = false := by
  cases x with
  | tmp t =>
    simp only [ev, List.getD_eq_getElem?_getD]
    cases ht : fr[t]? with
    | none => rfl
    | some a => exact mentL_get h ht
  | const x => exact ment_ofConst k x
  | global g => rfl
  | func f => rfl

theorem ment_cells {k : Nat} {a : AV} {cs : List AV} (hc : cellsA a = some cs) (h : ment k a = false) : mentL k cs = false := by
  cases a with
  | agg l => simp only [cellsA, Option.some.injEq] at hc; subst hc; simpa [ment] using h
  | tup l => simp [cellsA] at hc
  | any => simp [cellsA] at hc
  | v x =>
    simp only [cellsA] at hc
    cases hx : isOne x <;> simp [hx] at hc
    subst hc; rfl
  | _ => simp only [cellsA, Option.some.injEq] at hc; subst hc; simp only [mentL, h]; rfl

end Cg
