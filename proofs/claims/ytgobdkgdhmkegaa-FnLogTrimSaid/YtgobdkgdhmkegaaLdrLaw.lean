/-
  Plain laws: logs. No condition.
-/
import Derived.Test.YtgobdkgdhmkegaaHuntLaw
import Derived.Test.YtgobdkgdhmkegaaLdrDefs
set_option linter.unusedVariables false
set_option linter.unusedSimpArgs false
namespace Pl
open Go Cg
theorem logAll_iff {c : Cnf} {log : List (List Int)} : logAll c log 0 = true ↔ ∀ i, i < log.length → rup (c.1, c.2 ++ log.take i) (log.getD i []) = true := by
  unfold logAll
  rw [List.all_eq_true]
  refine ⟨fun h i hi => h i (List.mem_range'.2 ⟨i, by omega, by omega⟩), fun h i hi => ?_⟩
  obtain ⟨j, hj, e⟩ := List.mem_range'.1 hi
  exact h i (by omega)
theorem logOk_iff {c : Cnf} {log : List (List Int)} : logOk c log = true ↔ cnfOk c = true ∧ log.length ≤ 130 ∧ c.2.length + log.length ≤ 400 ∧ ∀ i, i < log.length → rup (c.1, c.2 ++ log.take i) (log.getD i []) = true := by
  unfold logOk
  simp only [Bool.and_eq_true, decide_eq_true_eq, logAll_iff, and_assoc]
theorem logOk_take {c : Cnf} {log : List (List Int)} (h : logOk c log = true) (k : Nat) : logOk c (log.take k) = true := by
  obtain ⟨h1, h2, h3, h4⟩ := logOk_iff.1 h
  have hl : (log.take k).length ≤ log.length := by simp; omega
  refine logOk_iff.2 ⟨h1, by omega, by omega, fun i hi => ?_⟩
  have hi' : i < k ∧ i < log.length := by simp at hi; omega
  have e1 : (log.take k).take i = log.take i := by rw [List.take_take, Nat.min_eq_left (by omega)]
  have e2 : (log.take k).getD i [] = log.getD i [] := by simp only [List.getD_eq_getElem?_getD, List.getElem?_take, if_pos hi'.1]
  rw [e1, e2]
  exact h4 i hi'.2
theorem cnfIs_more {c : Cnf} {v : List Bool} {L : List (List Int)} (hv : cnfIs c v = true) (hc : cnfOk (c.1, c.2 ++ L) = true) (hL : ∀ x ∈ L, clauseIs x v = true) : cnfIs (c.1, c.2 ++ L) v = true := by
  simp only [cnfIs, Bool.and_eq_true, decide_eq_true_eq, List.all_eq_true] at hv ⊢
  exact ⟨⟨hc, hv.1.2⟩, fun x hx => (List.mem_append.1 hx).elim (hv.2 x) (hL x)⟩
theorem rup_ok {c : Cnf} {cl : List Int} (h : rup c cl = true) : cnfOk c = true ∧ specClause cl c.1 = true ∧ (unitsS c.2 (nots cl)).2 = true := by
  unfold rup at h
  simp only [Bool.and_eq_true, and_assoc] at h
  exact h
theorem logOk_true {c : Cnf} {log : List (List Int)} {v : List Bool} (h : logOk c log = true) (hv : cnfIs c v = true) : ∀ n, n ≤ log.length → ∀ x ∈ log.take n, clauseIs x v = true
  | 0, _, x, hx => by simp at hx
  | n + 1, hn, x, hx => by
    rw [take_succ_getD [] (by omega)] at hx
    have ih := logOk_true h hv n (by omega)
    rcases List.mem_append.1 hx with e | e
    · exact ih x e
    · rw [List.mem_singleton.1 e]
      have hr := (logOk_iff.1 h).2.2.2 n (by omega)
      exact rup_true hr (cnfIs_more hv (rup_ok hr).1 ih)
theorem logOk_at {c : Cnf} {log : List (List Int)} {v : List Bool} (h : logOk c log = true) (hv : cnfIs c v = true) {i : Nat} (hi : i < log.length) : clauseIs (log.getD i []) v = true :=
  logOk_true h hv log.length (Nat.le_refl _) _ (by rw [List.take_length]; exact getD_mem [] hi)
theorem logOk_never {c : Cnf} {log : List (List Int)} {v : List Bool} (h : logOk c log = true) (he : logEnds log = true) : cnfIs c v = false := by
  cases hv : cnfIs c v with
  | false => rfl
  | true =>
    exfalso
    simp only [logEnds, Bool.and_eq_true, decide_eq_true_eq] at he
    have := logOk_at h hv (i := log.length - 1) (by omega)
    rw [List.eq_nil_of_length_eq_zero he.2] at this
    cases this
theorem huntRun_never {c : Cnf} {log : List (List Int)} (h : logOk c log = true) (he : logEnds log = true) : (huntRun c 130).1 = [] := by
  rcases huntRun_cases c 130 with e | ⟨_, _, _, _, ⟨h1, e⟩ | ⟨_, _, _, _, e⟩⟩
  · rw [e]
  · rw [logOk_never h he] at h1; cases h1
  · rw [e]
theorem rup_more {c : Cnf} {L : List (List Int)} {cl : List Int} (h : rup c cl = true) (hc : cnfOk (c.1, L) = true) (hL : ∀ x ∈ c.2, x ∈ L) : rup (c.1, L) cl = true := by
  obtain ⟨h1, h2, h3⟩ := rup_ok h
  refine rup_of hc h2 fun put hp hs hn => ?_
  have := (units_mono (list := c.2) (list' := L) (fun x hx => ⟨hL x hx, cnfOk_mk h1 x hx⟩) hp hs 61 (nots cl) fun x hx => by
    obtain ⟨y, hy, rfl⟩ := List.mem_map.1 hx
    rw [(specClause_mk h2 y hy).wneg]
    exact hn y hy).1
  rw [show (unitsF scanS c.2 61 (nots cl)).2 = true from h3] at this
  cases this
theorem logOk_more {c : Cnf} {log : List (List Int)} (h : logOk c log = true) (hn : 0 < c.2.length) (hb : c.2.length + 1 + log.length ≤ 400) : logOk (c.1, c.2 ++ [c.2.getD 0 []]) log = true := by
  obtain ⟨h1, h2, h3, h4⟩ := logOk_iff.1 h
  have hin : c.2.getD 0 [] ∈ c.2 := getD_mem [] hn
  have hspec : ∀ x ∈ c.2, specClause x c.1 = true := by
    have := h1
    simp only [cnfOk, Bool.and_eq_true, List.all_eq_true] at this
    exact this.2
  have hc : cnfOk (c.1, c.2 ++ [c.2.getD 0 []]) = true := cnfOk_more h1 (fun x hx => by rw [List.mem_singleton.1 hx]; exact hspec _ hin) (by simp only [List.length_singleton]; omega)
  refine logOk_iff.2 ⟨hc, h2, by simp only [List.length_append, List.length_singleton]; omega, fun i hi => ?_⟩
  have hr := h4 i hi
  obtain ⟨r1, _, _⟩ := rup_ok hr
  refine rup_more (c := (c.1, c.2 ++ log.take i)) (L := (c.2 ++ [c.2.getD 0 []]) ++ log.take i) hr (cnfOk_more hc (fun x hx => ?_) ?_) fun x hx => ?_
  · have := r1
    simp only [cnfOk, Bool.and_eq_true, List.all_eq_true] at this
    exact this.2 x (List.mem_append_right _ hx)
  · simp only [List.length_append, List.length_singleton, List.length_take]; omega
  · rcases List.mem_append.1 hx with e | e
    · exact List.mem_append_left _ (List.mem_append_left _ e)
    · exact List.mem_append_right _ e
end Pl
