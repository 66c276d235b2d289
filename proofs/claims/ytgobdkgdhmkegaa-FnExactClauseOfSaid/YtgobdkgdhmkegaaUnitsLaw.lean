/-
  Unit propagation: plain laws. No condition.
-/
import Derived.Test.YtgobdkgdhmkegaaUnitsDefs
import Derived.Test.YtgobdkgdhmkegaaClauseLaw
set_option linter.unusedVariables false
namespace Pl
open Go Cg

/-- A mark of at most sixty variables. -/
def Mk (x : Int) : Prop := x ≠ 0 ∧ -60 ≤ x ∧ x ≤ 60
theorem Mk.wneg {x : Int} (h : Mk x) : Pl.wneg x = -x := by
  obtain ⟨h1, h2, h3⟩ := h
  unfold Pl.wneg; rw [Cg.wrap_small (by omega) (by omega)]; omega
theorem absW_mk {x : Int} (h0 : 0 < absW x) (h1 : absW x ≤ 60) : Mk x := by
  unfold absW Pl.wneg at h0 h1
  split at h0
  · rw [if_pos ‹_›] at h1; omega
  · rename_i h2
    rw [if_neg h2] at h1
    split at h0
    · rw [if_pos ‹_›] at h1; omega
    · rename_i h3
      rw [if_neg h3] at h1
      split at h0
      · rename_i h4
        rw [if_pos h4, Cg.wrap_small (by omega) (by omega)] at h1
        exact ⟨by omega, by omega, by omega⟩
      · exact ⟨by omega, by omega, by omega⟩
theorem absW_of {x : Int} (h : Mk x) : absW x = if x < 0 then -x else x := by
  obtain ⟨h1, h2, h3⟩ := h
  unfold absW Pl.wneg
  rw [if_neg (by omega), if_neg (by omega)]
  split
  · rw [Cg.wrap_small (by omega) (by omega)]; omega
  · rfl
theorem specLoop_mk {many : Int} : ∀ {l : List Int} {last : Int}, 0 ≤ last → specLoop many last l = true → many ≤ 60 ∧ ∀ x ∈ l, Mk x ∧ last < absW x ∧ absW x ≤ many
  | [], last, h0, h => by
    simp only [specLoop, Bool.and_eq_true, decide_eq_true_eq] at h
    exact ⟨h.2, fun x hx => by cases hx⟩
  | y :: l, last, h0, h => by
    simp only [specLoop] at h
    cases hc : (decide (absW y ≤ last) || decide (absW y > many))
    · rw [hc] at h
      simp only [cond_false] at h
      simp only [Bool.or_eq_false_iff, decide_eq_false_iff_not] at hc
      obtain ⟨h1, h2⟩ := specLoop_mk (by omega) h
      refine ⟨h1, fun x hx => ?_⟩
      cases List.mem_cons.1 hx with
      | inl e => subst e; exact ⟨absW_mk (by omega) (by omega), by omega, by omega⟩
      | inr e =>
        obtain ⟨h3, h4, h5⟩ := h2 x e
        exact ⟨h3, by omega, h5⟩
    · rw [hc] at h; cases h
theorem specClause_mk {l : List Int} {many : Int} (h : specClause l many = true) : ∀ x ∈ l, Mk x := fun x hx => ((specLoop_mk (Int.le_refl 0) h).2 x hx).1
theorem cnfOk_mk {c : Cnf} (h : cnfOk c = true) : ∀ cl ∈ c.2, ∀ x ∈ cl, Mk x := fun cl hc x hx => by
  simp only [cnfOk, Bool.and_eq_true] at h
  exact specClause_mk (List.all_eq_true.1 h.2 cl hc) x hx

/-! ### What is put -/

theorem at_ne {n : Int} : ∀ {put : List Int}, at_ n put = 0 → n ∉ put ∧ Pl.wneg n ∉ put
  | [], _ => by simp
  | p :: r, h => by
    unfold at_ at h
    split at h
    · cases h
    · split at h
      · cases h
      · obtain ⟨h1, h2⟩ := at_ne h
        rename_i h3 h4
        exact ⟨by simp; exact ⟨fun e => h3 e.symm, h1⟩, by simp; exact ⟨fun e => h4 e.symm, h2⟩⟩
theorem at_cases {n : Int} : ∀ (put : List Int), at_ n put = 1 ∨ at_ n put = -1 ∨ at_ n put = 0
  | [] => .inr (.inr rfl)
  | p :: r => by
    unfold at_
    split
    · exact .inl rfl
    · split
      · exact .inr (.inl rfl)
      · exact at_cases r
theorem at_of_not {n : Int} : ∀ {put : List Int}, n ∉ put → Pl.wneg n ∉ put → at_ n put = 0
  | [], _, _ => rfl
  | p :: r, h1, h2 => by
    simp only [List.mem_cons, not_or] at h1 h2
    unfold at_
    rw [if_neg (fun e => h1.1 e.symm), if_neg (fun e => h2.1 e.symm)]
    exact at_of_not h1.2 h2.2
theorem at_pos {n : Int} : ∀ {put : List Int}, Pl.wneg n ∉ put → n ∈ put → at_ n put = 1
  | [], _, h => by cases h
  | p :: r, h1, h2 => by
    simp only [List.mem_cons, not_or] at h1 h2
    unfold at_
    split
    · rfl
    · rename_i h3
      rw [if_neg (fun e => h1.1 e.symm)]
      exact at_pos h1.2 (h2.resolve_left fun e => h3 e.symm)
theorem at_neg {n : Int} : ∀ {put : List Int}, n ∉ put → Pl.wneg n ∈ put → at_ n put = -1
  | [], _, h => by cases h
  | p :: r, h1, h2 => by
    simp only [List.mem_cons, not_or] at h1 h2
    unfold at_
    rw [if_neg (fun e => h1.1 e.symm)]
    split
    · rfl
    · rename_i h3
      exact at_neg h1.2 (h2.resolve_left fun e => h3 e.symm)

/-! ### Clauses -/

theorem leftL_one {put : List Int} : ∀ (c : List Int) (n : Nat) (l : Int), (leftL put c n l).1 = 1 → (n = 1 ∧ (leftL put c n l).2 = l) ∨ (n = 0 ∧ (leftL put c n l).2 ∈ c ∧ at_ (leftL put c n l).2 put = 0)
  | [], n, l, h => by simp only [leftL] at h ⊢; exact .inl ⟨h, by first | rfl | trivial⟩
  | x :: xs, n, l, h => by
    simp only [leftL] at h ⊢
    split at h
    · cases h
    · rename_i h1
      rw [if_neg h1]
      split at h
      · rename_i h2
        rw [if_pos h2]
        rcases leftL_one xs (n + 1) _ h with ⟨h3, h4⟩ | ⟨h3, _⟩
        · have hn : n = 0 := by omega
          subst hn
          simp only [if_true] at h4 ⊢
          rw [h4]
          exact .inr ⟨by first | rfl | trivial, by simp, h2⟩
        · omega
      · rename_i h2
        rw [if_neg h2]
        rcases leftL_one xs n l h with h3 | ⟨h3, h4, h5⟩
        · exact .inl h3
        · exact .inr ⟨h3, List.mem_cons_of_mem _ h4, h5⟩
theorem left_one {put c : List Int} (h : (left put c).1 = 1) : (left put c).2 ∈ c ∧ at_ (left put c).2 put = 0 := by
  rcases leftL_one c 0 0 h with ⟨h1, _⟩ | ⟨_, h1⟩
  · cases h1
  · exact h1
theorem scanS_some {put : List Int} : ∀ {cs : List (List Int)} {l : Int}, scanS put cs = some (some l) → ∃ c ∈ cs, l ∈ c ∧ at_ l put = 0
  | [], l, h => by cases h
  | c :: cs, l, h => by
    unfold scanS at h
    split at h
    · cases h
    · split at h
      · rename_i h1
        cases h
        obtain ⟨h2, h3⟩ := left_one h1
        exact ⟨c, List.mem_cons_self, h2, h3⟩
      · obtain ⟨c', h1, h2⟩ := scanS_some h
        exact ⟨c', List.mem_cons_of_mem _ h1, h2⟩

theorem unitL_free {put : List Int} : ∀ (c : List Int) (f : Int) (k : Nat), (unitL put c f k).1 ≠ 0 → (unitL put c f k).1 = f ∨ ((unitL put c f k).1 ∈ c ∧ (unitL put c f k).1 ∉ put ∧ Pl.wneg (unitL put c f k).1 ∉ put)
  | [], f, k, h => by
    simp only [unitL] at h ⊢
    by_cases h1 : k > 1
    · rw [if_pos h1] at h; exact absurd rfl h
    · rw [if_neg h1]; exact .inl rfl
  | x :: xs, f, k, h => by
    by_cases h1 : x ∈ put
    · have e : unitL put (x :: xs) f k = (0, false) := by simp only [unitL, List.contains_iff_mem, h1, if_true]
      rw [e] at h; exact absurd rfl h
    · by_cases h2 : Pl.wneg x ∈ put
      · have e : unitL put (x :: xs) f k = unitL put xs f k := by simp only [unitL, List.contains_iff_mem, h1, h2, if_true, if_false]
        rw [e] at h ⊢
        exact (unitL_free xs f k h).imp id fun h => ⟨List.mem_cons_of_mem _ h.1, h.2⟩
      · have e : unitL put (x :: xs) f k = unitL put xs x (k + 1) := by simp only [unitL, List.contains_iff_mem, h1, h2, if_false]
        rw [e] at h ⊢
        rcases unitL_free xs x (k + 1) h with h3 | h3
        · rw [h3]; exact .inr ⟨List.mem_cons_self, h1, h2⟩
        · exact .inr ⟨List.mem_cons_of_mem _ h3.1, h3.2⟩
theorem unit_free {put c : List Int} (h : (unit c put).1 ≠ 0) : (unit c put).1 ∈ c ∧ (unit c put).1 ∉ put ∧ Pl.wneg (unit c put).1 ∉ put := (unitL_free c 0 0 h).resolve_left h

/-- The two scans of a clause agree where nothing is put both ways. -/
theorem unit_left {put : List Int} (hp : Cons put) : ∀ (c : List Int), (∀ x ∈ c, Mk x) → ∀ (f : Int) (n : Nat), (n = 0 → f = 0) → ∀ (l : Int), (n = 1 → l = f) →
    (unitL put c f n).2 = decide ((leftL put c n l).1 = 0) ∧ ((leftL put c n l).1 = 1 → (unitL put c f n).1 = (leftL put c n l).2) ∧ ((leftL put c n l).1 ≠ 1 → (unitL put c f n).1 = 0)
  | [], _, f, n, h0, l, h1 => by
    simp only [unitL, leftL]
    refine ⟨by first | rfl | trivial, fun h => ?_, fun h => ?_⟩
    · rw [if_neg (by omega), h1 h]
    · by_cases h2 : n > 1
      · rw [if_pos h2]
      · rw [if_neg h2]; exact h0 (by omega)
  | x :: xs, hx, f, n, h0, l, h1 => by
    have hm := hx x List.mem_cons_self
    have hxs : ∀ y ∈ xs, Mk y := fun y hy => hx y (List.mem_cons_of_mem _ hy)
    by_cases h2 : x ∈ put
    · have h3 : Pl.wneg x ∉ put := by rw [hm.wneg]; exact (hp x h2).2.2.2
      have e1 : unitL put (x :: xs) f n = (0, false) := by simp only [unitL, List.contains_iff_mem, h2, if_true]
      have e2 : leftL put (x :: xs) n l = (2, 0) := by simp only [leftL, at_pos h3 h2, if_true]
      rw [e1, e2]
      exact ⟨rfl, fun h => (by cases h), fun _ => rfl⟩
    · by_cases h3 : Pl.wneg x ∈ put
      · have e1 : unitL put (x :: xs) f n = unitL put xs f n := by simp only [unitL, List.contains_iff_mem, h2, h3, if_true, if_false]
        have e2 : leftL put (x :: xs) n l = leftL put xs n l := by simp only [leftL, at_neg h2 h3]; simp
        rw [e1, e2]
        exact unit_left hp xs hxs f n h0 l h1
      · have e1 : unitL put (x :: xs) f n = unitL put xs x (n + 1) := by simp only [unitL, List.contains_iff_mem, h2, h3, if_false]
        have e2 : leftL put (x :: xs) n l = leftL put xs (n + 1) (if n = 0 then x else l) := by simp only [leftL, at_of_not h2 h3]; simp
        rw [e1, e2]
        exact unit_left hp xs hxs x (n + 1) (by omega) _ (fun h => by rw [if_pos (by omega)])

theorem scan_same {put : List Int} (hp : Cons put) : ∀ (cs : List (List Int)), (∀ c ∈ cs, ∀ x ∈ c, Mk x) → scanI put cs = scanS put cs
  | [], _ => rfl
  | c :: cs, h => by
    obtain ⟨h1, h2, h3⟩ := unit_left hp c (h c List.mem_cons_self) 0 0 (fun _ => rfl) 0 (fun h => (by cases h))
    have ih := scan_same hp cs fun c' hc => h c' (List.mem_cons_of_mem _ hc)
    have e1 : (unit c put).2 = decide ((left put c).1 = 0) := h1
    unfold scanI scanS
    by_cases h4 : (left put c).1 = 0
    · rw [e1, if_pos (by simpa using h4), if_pos h4]
    · rw [e1, if_neg (by simpa using h4), if_neg h4]
      by_cases h5 : (left put c).1 = 1
      · have e2 : (unit c put).1 = (left put c).2 := h2 h5
        have hne : (left put c).2 ≠ 0 := (h c List.mem_cons_self _ (left_one h5).1).1
        rw [e2, if_pos hne, if_pos h5]
      · have e2 : (unit c put).1 = 0 := h3 h5
        rw [e2, if_neg (by simp), if_neg h5]
        exact ih

/-! ### Rounds -/

theorem cov_snoc {put : List Int} {l : Int} (hm : Mk l) (h1 : l ∉ put) (h2 : Pl.wneg l ∉ put) : uncov (put ++ [l]) < uncov put := by
  rw [hm.wneg] at h2
  obtain ⟨h0, h3, h4⟩ := hm
  unfold uncov
  rw [← List.countP_eq_length_filter, ← List.countP_eq_length_filter]
  let v : Nat := (if l < 0 then -l else l).toNat - 1
  have hv : (v : Int) + 1 = if l < 0 then -l else l := by show ((((if l < 0 then -l else l).toNat - 1 : Nat) : Int)) + 1 = _; split <;> omega
  have hlt : v < 60 := by show (if l < 0 then -l else l).toNat - 1 < 60; split <;> omega
  have key : ∀ (r : List Nat), v ∈ r → r.Nodup → (r.countP fun (w : Nat) => !((put ++ [l]).contains ((w : Int) + 1) || (put ++ [l]).contains (-((w : Int) + 1)))) < r.countP fun (w : Nat) => !(put.contains ((w : Int) + 1) || put.contains (-((w : Int) + 1))) := by
    have mono : ∀ (r : List Nat), (r.countP fun (w : Nat) => !((put ++ [l]).contains ((w : Int) + 1) || (put ++ [l]).contains (-((w : Int) + 1)))) ≤ r.countP fun (w : Nat) => !(put.contains ((w : Int) + 1) || put.contains (-((w : Int) + 1))) := fun r =>
      List.countP_mono_left fun w _ h => by
        simp only [Bool.not_eq_true', Bool.or_eq_false_iff, List.contains_eq_mem, List.mem_append, List.mem_singleton, decide_eq_false_iff_not, not_or] at h ⊢
        exact ⟨h.1.1, h.2.1⟩
    intro r
    induction r with
    | nil => intro h; cases h
    | cons w r ih =>
      intro hvr hnd
      rw [List.countP_cons, List.countP_cons]
      by_cases hw : w = v
      · rw [hw]
        have e1 : (!((put ++ [l]).contains ((v : Int) + 1) || (put ++ [l]).contains (-((v : Int) + 1)))) = false := by
          simp only [Bool.not_eq_false', Bool.or_eq_true, List.contains_eq_mem, List.mem_append, List.mem_singleton, decide_eq_true_eq]
          rw [hv]
          by_cases hl : l < 0
          · rw [if_pos hl]; right; right; omega
          · rw [if_neg hl]; left; right; rfl
        have e2 : (!(put.contains ((v : Int) + 1) || put.contains (-((v : Int) + 1)))) = true := by
          simp only [Bool.not_eq_true', Bool.or_eq_false_iff, List.contains_eq_mem, decide_eq_false_iff_not]
          rw [hv]
          by_cases hl : l < 0
          · rw [if_pos hl]; exact ⟨h2, by rw [Int.neg_neg]; exact h1⟩
          · rw [if_neg hl]; exact ⟨h1, h2⟩
        rw [e1, e2]
        have := mono r
        simp only [Bool.false_eq_true, if_false, if_true]
        omega
      · have hin : v ∈ r := by
          cases List.mem_cons.1 hvr with
          | inl e => exact absurd e.symm hw
          | inr e => exact e
        have h5 := ih hin (List.nodup_cons.1 hnd).2
        have h6 := mono [w]
        rw [List.countP_cons, List.countP_cons] at h6
        simp only [List.countP_nil, Nat.zero_add] at h6
        omega
  exact key _ (List.mem_range.2 hlt) List.nodup_range

theorem uncov_le (put : List Int) : uncov put < 61 := by
  unfold uncov
  have := List.length_filter_le (fun (v : Nat) => !(put.contains ((v : Int) + 1) || put.contains (-((v : Int) + 1)))) (List.range 60)
  simp only [List.length_range] at this
  omega

theorem Cons.snoc {put : List Int} {l : Int} (hp : Cons put) (hm : Mk l) (h1 : l ∉ put) (h2 : Pl.wneg l ∉ put) : Cons (put ++ [l]) := fun x hx => by
  rw [hm.wneg] at h2
  rcases List.mem_append.1 hx with h | h
  · obtain ⟨h3, h4, h5, h6⟩ := hp x h
    refine ⟨h3, h4, h5, fun h7 => ?_⟩
    rcases List.mem_append.1 h7 with h8 | h8
    · exact h6 h8
    · simp only [List.mem_singleton] at h8
      subst h8
      rw [Int.neg_neg] at h2
      exact h2 h
  · simp only [List.mem_singleton] at h
    subst h
    refine ⟨hm.1, hm.2.1, hm.2.2, fun h7 => ?_⟩
    rcases List.mem_append.1 h7 with h8 | h8
    · exact h2 h8
    · simp only [List.mem_singleton] at h8
      exact hm.1 (by omega)

theorem units_same {list : List (List Int)} (hl : ∀ c ∈ list, ∀ x ∈ c, Mk x) : ∀ (k : Nat) (put : List Int), Cons put → unitsF scanI list k put = unitsF scanS list k put
  | 0, _, _ => rfl
  | k + 1, put, hp => by
    unfold unitsF
    rw [scan_same hp list hl]
    split
    · rfl
    · rfl
    · rename_i l h
      obtain ⟨c, h1, h2, h3⟩ := scanS_some h
      obtain ⟨h4, h5⟩ := at_ne h3
      exact units_same hl k _ (hp.snoc (hl c h1 l h2) h4 h5)

/-- The negations of a clause are nowhere put both ways. -/
theorem nots_cons {many : Int} : ∀ {l : List Int} {last : Int}, 0 ≤ last → specLoop many last l = true → Cons (nots l) ∧ ∀ x ∈ nots l, last < absW x
  | [], last, _, _ => ⟨fun x hx => (by cases hx), fun x hx => (by cases hx)⟩
  | y :: l, last, h0, h => by
    obtain ⟨hm, h1⟩ := specLoop_mk h0 h
    simp only [specLoop] at h
    cases hc : (decide (absW y ≤ last) || decide (absW y > many))
    · rw [hc] at h
      simp only [cond_false] at h
      simp only [Bool.or_eq_false_iff, decide_eq_false_iff_not] at hc
      obtain ⟨h2, h3⟩ := nots_cons (by omega) h
      have hmy := (h1 y List.mem_cons_self).1
      have ey : nots (y :: l) = -y :: nots l := by simp only [nots, List.map_cons, hmy.wneg]
      have hmn : Mk (-y) := ⟨by have := hmy.1; omega, by have := hmy.2.2; omega, by have := hmy.2.1; omega⟩
      have ea : absW (-y) = absW y := by rw [absW_of hmn, absW_of hmy]; have := hmy.1; split <;> split <;> omega
      rw [ey]
      have out : ∀ x ∈ nots l, x ≠ y ∧ x ≠ -y := fun x hx => by
        have := h3 x hx
        exact ⟨fun e => by subst e; omega, fun e => by subst e; omega⟩
      refine ⟨fun x hx => ?_, fun x hx => ?_⟩
      · cases List.mem_cons.1 hx with
        | inl e =>
          subst e
          refine ⟨hmn.1, hmn.2.1, hmn.2.2, fun h4 => ?_⟩
          rw [Int.neg_neg] at h4
          cases List.mem_cons.1 h4 with
          | inl e => have := hmy.1; omega
          | inr e => exact (out y e).1 rfl
        | inr e =>
          obtain ⟨h4, h5, h6, h7⟩ := h2 x e
          refine ⟨h4, h5, h6, fun h8 => ?_⟩
          cases List.mem_cons.1 h8 with
          | inl e' => exact (out x e).1 (by omega)
          | inr e' => exact h7 e'
      · cases List.mem_cons.1 hx with
        | inl e => subst e; rw [ea]; omega
        | inr e => have := h3 x e; omega
    · rw [hc] at h; cases h

theorem logAll_step (c : Cnf) {log : List (List Int)} {i : Nat} (h : i < log.length) : logAll c log i = (rup (c.1, c.2 ++ log.take i) (log.getD i []) && logAll c log (i + 1)) := by
  unfold logAll
  rw [show log.length - i = (log.length - (i + 1)) + 1 by omega, List.range'_succ, List.all_cons]
theorem logAll_end (c : Cnf) {log : List (List Int)} {i : Nat} (h : log.length ≤ i) : logAll c log i = true := by
  unfold logAll
  rw [show log.length - i = 0 by omega]; rfl
theorem sumLen_snoc {α : Type} : ∀ (l : List (List α)) (x : List α), sumLen (l ++ [x]) = sumLen l + x.length
  | [], x => by simp [sumLen]
  | y :: l, x => by simp only [List.cons_append, sumLen, sumLen_snoc l x]; omega
theorem sumLen_nonneg {α : Type} : ∀ (l : List (List α)), 0 ≤ sumLen l
  | [] => Int.le_refl 0
  | y :: l => by have := sumLen_nonneg l; simp only [sumLen]; omega
theorem sumLen_le {α : Type} {b : Nat} : ∀ (l : List (List α)), (∀ y ∈ l, y.length ≤ b) → sumLen l ≤ (l.length : Int) * b
  | [], _ => by simp [sumLen]
  | y :: l, h => by
    have h1 := sumLen_le l fun z hz => h z (List.mem_cons_of_mem _ hz)
    have h2 := h y List.mem_cons_self
    simp only [sumLen, List.length_cons]
    have : ((l.length + 1 : Nat) : Int) * (b : Int) = (l.length : Int) * b + b := by push_cast; rw [Int.add_mul, Int.one_mul]
    rw [this]; omega
theorem take_succ_getD {α : Type} (d : α) {l : List α} {i : Nat} (h : i < l.length) : l.take (i + 1) = l.take i ++ [l.getD i d] := by
  rw [List.take_succ_eq_append_getElem h]; simp [h]
theorem sumLen_flat {α : Type} : ∀ (l : List (List α)), (l.flatten.length : Int) = sumLen l
  | [] => rfl
  | y :: l => by simp only [List.flatten_cons, List.length_append, sumLen]; have := sumLen_flat l; omega

end Pl
