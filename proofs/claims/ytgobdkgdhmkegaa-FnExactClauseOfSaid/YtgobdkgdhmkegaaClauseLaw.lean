/-
  The plain law of clauses: both ways to tell one give the same. No condition.
-/
import Derived.Test.YtgobdkgdhmkegaaClauseOk
set_option linter.unusedVariables false
set_option linter.unusedSimpArgs false
namespace Pl
open Go

theorem wneg_small {x : Int} (h1 : -9223372036854775807 ≤ x) (h2 : x ≤ 9223372036854775807) : wneg x = -x := by
  unfold wneg
  rw [Cg.wrap_small (by omega) (by omega)]
  omega

theorem specLoop_out {many : Int} (h : ¬ (0 ≤ many ∧ many ≤ 60)) : ∀ (l : List Int) (last : Int), specLoop many last l = false
  | [], last => by
    simp only [specLoop]
    by_cases h1 : many ≥ 0
    · simp [h1]; omega
    · simp [h1]
  | x :: l, last => by
    simp only [specLoop, specLoop_out h l]
    cases (decide (absW x ≤ last) || decide (absW x > many)) <;> rfl

theorem isMark_iff {x many : Int} (h : 0 ≤ many ∧ many ≤ 60) : isMark x many = true ↔ x ≠ 0 ∧ -many ≤ x ∧ x ≤ many := by
  unfold isMark withinI
  rw [wneg_small (by omega) (by omega)]
  simp

theorem varI_eq {x : Int} (h : -60 ≤ x ∧ x ≤ 60) : varI x = if x < 0 then -x else x := by
  unfold varI
  rw [wneg_small (by omega) (by omega)]
  split <;> split <;> omega

theorem absW_eq {x : Int} : absW x = if x < -60 then 61 else if x > 60 then 61 else if x < 0 then -x else x := by
  unfold absW
  split
  · rfl
  split
  · rfl
  split
  · rw [wneg_small (by omega) (by omega)]
  · rfl

theorem loops_none {many : Int} (h : 0 ≤ many ∧ many ≤ 60) : ∀ (l : List Int) (p : Int), (-60 ≤ p ∧ p ≤ 60) → specLoop many (varI p) l = implLoop many (some p) l
  | [], p, hp => by
    simp only [specLoop, implLoop]
    have h1 : decide (many ≥ 0) = true := decide_eq_true h.1
    have h2 : decide (many ≤ 60) = true := decide_eq_true h.2
    rw [h1, h2]; rfl
  | x :: l, p, hp => by
    simp only [specLoop, implLoop]
    have hv := varI_eq hp
    cases hm : isMark x many
    · have hn : ¬ (x ≠ 0 ∧ -many ≤ x ∧ x ≤ many) := fun e => by rw [(isMark_iff h).2 e] at hm; cases hm
      have : absW x ≤ varI p ∨ absW x > many := by
        rw [absW_eq, hv]
        (repeat' split) <;> omega
      have : (decide (absW x ≤ varI p) || decide (absW x > many)) = true := by simpa using this
      rw [this]; rfl
    · have hx := (isMark_iff h).1 hm
      have e : absW x = varI x := by
        rw [absW_eq, varI_eq (by omega)]
        (repeat' split) <;> omega
      have e2 : decide (absW x > many) = false := decide_eq_false (by rw [e, varI_eq (by omega)]; split <;> omega)
      rw [e2, e]
      simp only [Bool.or_false, Bool.not_true, Bool.false_or]
      rw [loops_none h l x (by omega)]

theorem clause_same (l : List Int) (many : Int) : implClause l many = specClause l many := by
  unfold implClause specClause
  by_cases h : 0 ≤ many ∧ many ≤ 60
  · have hw : withinI many 0 60 = true := by simp [withinI, h.1, h.2]
    rw [hw]
    simp only [cond_true]
    cases l with
    | nil =>
      simp only [specLoop, implLoop]
      have h1 : decide (many ≥ 0) = true := decide_eq_true h.1
      have h2 : decide (many ≤ 60) = true := decide_eq_true h.2
      rw [h1, h2]; rfl
    | cons x l =>
      simp only [specLoop, implLoop]
      cases hm : isMark x many
      · have hn : ¬ (x ≠ 0 ∧ -many ≤ x ∧ x ≤ many) := fun e => by rw [(isMark_iff h).2 e] at hm; cases hm
        have : absW x ≤ 0 ∨ absW x > many := by
          rw [absW_eq]
          (repeat' split) <;> omega
        have : (decide (absW x ≤ 0) || decide (absW x > many)) = true := by simpa using this
        rw [this]; rfl
      · have hx := (isMark_iff h).1 hm
        have e : absW x = varI x := by
          rw [absW_eq, varI_eq (by omega)]
          (repeat' split) <;> omega
        have e2 : decide (absW x > many) = false := decide_eq_false (by rw [e, varI_eq (by omega)]; split <;> omega)
        have e3 : decide (absW x ≤ 0) = false := decide_eq_false (by rw [e, varI_eq (by omega)]; split <;> omega)
        rw [e2, e3, e, loops_none h l x (by omega)]
        rfl
  · have hw : withinI many 0 60 = false := by
      simp only [withinI, Bool.and_eq_false_iff, decide_eq_false_iff_not]
      omega
    rw [hw, specLoop_out h]
    rfl
end Pl

