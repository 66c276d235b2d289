/-
  Plain laws: trimmed logs. No condition.
-/
import Derived.Test.YtgobdkgdhmkegaaLdrLaw
import Derived.Test.YtgobdkgdhmkegaaLtrDefs
set_option linter.unusedVariables false
set_option linter.unusedSimpArgs false
namespace Pl
open Go Cg
theorem TrimI.init {c : Cnf} {log : List (List Int)} (h : logOk c log = true) (he : logEnds log = true) : TrimI c log (log.length - 1) log := by
  simp only [logEnds, Bool.and_eq_true, decide_eq_true_eq] at he
  exact ⟨by omega, (logOk_len h).1, (logOk_len h).2, rfl⟩
theorem TrimI.some {c : Cnf} {log out : List (List Int)} {n : Nat} (h : TrimI c log (n + 1) out) (ho : logOk c (out.take n ++ out.drop (n + 1)) = true) : TrimI c log n (out.take n ++ out.drop (n + 1)) := by
  obtain ⟨h1, h2, h3, h4⟩ := h
  have hl := logOk_len ho
  refine ⟨by simp; omega, hl.1, hl.2, ?_⟩
  rw [h4]
  show trimF c n (trimStep c out n) = _
  unfold trimStep
  rw [if_pos ho]
theorem TrimI.none {c : Cnf} {log out : List (List Int)} {n : Nat} (h : TrimI c log (n + 1) out) (ho : logOk c (out.take n ++ out.drop (n + 1)) = false) : TrimI c log n out := by
  obtain ⟨h1, h2, h3, h4⟩ := h
  refine ⟨by omega, h2, h3, ?_⟩
  rw [h4]
  show trimF c n (trimStep c out n) = _
  unfold trimStep
  rw [if_neg (by rw [ho]; simp)]
theorem TrimI.stop {c : Cnf} {log out : List (List Int)} (h : TrimI c log 0 out) (ho : logOk c log = true) (he : logEnds log = true) : logTrim c log = (out, true) := by
  unfold logTrim
  rw [if_pos ⟨ho, he⟩, h.2.2.2]
  rfl
theorem logTrim_no {c : Cnf} {log : List (List Int)} (h : ¬ (logOk c log = true ∧ logEnds log = true)) : logTrim c log = ([], false) := by
  unfold logTrim
  rw [if_neg h]
theorem logEnds_less {out : List (List Int)} {n : Nat} (h : n + 2 ≤ out.length) (he : logEnds out = true) : logEnds (out.take n ++ out.drop (n + 1)) = true := by
  simp only [logEnds, Bool.and_eq_true, decide_eq_true_eq] at he ⊢
  have hl : (out.take n ++ out.drop (n + 1)).length = out.length - 1 := by simp; omega
  refine ⟨by omega, ?_⟩
  have e : (out.take n ++ out.drop (n + 1)).getD ((out.take n ++ out.drop (n + 1)).length - 1) [] = out.getD (out.length - 1) [] := by
    rw [hl]
    have ht : (out.take n).length = n := by simp; omega
    simp only [List.getD_eq_getElem?_getD]
    rw [List.getElem?_append_right (by omega), ht, List.getElem?_drop]
    congr 2
    omega
  rw [e]
  exact he.2
theorem trimF_props (c : Cnf) : ∀ (n : Nat) (out : List (List Int)), n + 1 ≤ out.length → logOk c out = true → logEnds out = true → logOk c (trimF c n out) = true ∧ logEnds (trimF c n out) = true ∧ (trimF c n out).length ≤ out.length
  | 0, out, _, h1, h2 => ⟨h1, h2, Nat.le_refl _⟩
  | n + 1, out, hn, h1, h2 => by
    show logOk c (trimF c n (trimStep c out n)) = true ∧ logEnds (trimF c n (trimStep c out n)) = true ∧ (trimF c n (trimStep c out n)).length ≤ out.length
    unfold trimStep
    split
    · rename_i h
      have hl : (out.take n ++ out.drop (n + 1)).length = out.length - 1 := by simp; omega
      obtain ⟨a1, a2, a3⟩ := trimF_props c n _ (by omega) h (logEnds_less (by omega) h2)
      exact ⟨a1, a2, by omega⟩
    · exact trimF_props c n out (by omega) h1 h2
theorem logTrim_ok {c : Cnf} {log : List (List Int)} (h : (logTrim c log).2 = true) : logOk c (logTrim c log).1 = true ∧ logEnds (logTrim c log).1 = true ∧ (logTrim c log).1.length ≤ log.length ∧ 1 ≤ (logTrim c log).1.length := by
  unfold logTrim at h ⊢
  split
  · rename_i h1
    obtain ⟨a1, a2, a3⟩ := trimF_props c (log.length - 1) log (by
      have := h1.2
      simp only [logEnds, Bool.and_eq_true, decide_eq_true_eq] at this
      omega) h1.1 h1.2
    refine ⟨a1, a2, a3, ?_⟩
    have := a2
    simp only [logEnds, Bool.and_eq_true, decide_eq_true_eq] at this
    exact this.1
  · rename_i h1
    rw [if_neg h1] at h; cases h
theorem logTrim_sz {c : Cnf} {log : List (List Int)} : (logTrim c log).1.length ≤ 130 ∧ ∀ x ∈ (logTrim c log).1, x.length ≤ 60 := by
  cases h : (logTrim c log).2 with
  | true => exact logOk_len (logTrim_ok h).1
  | false =>
    unfold logTrim at h ⊢
    split
    · rename_i h1; rw [if_pos h1] at h; cases h
    · exact ⟨Nat.zero_le _, fun x hx => by cases hx⟩
end Pl
