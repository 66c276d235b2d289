/-
  The codes' contracts: clauses made of lists. No condition.
-/
import Derived.Test.YtgobdkgdhmkegaaSrtVc
import Derived.Test.YtgobdkgdhmkegaaSrtWorld
import Derived.Test.YtgobdkgdhmkegaaSrtLaw
set_option linter.unusedVariables false
set_option linter.unusedSimpArgs false
set_option maxRecDepth 100000
namespace Cg
open Go Go.Proofs
theorem k_iClauseOf : SoundC Try.prog K_iClauseOf.1 K_iClauseOf.2 := sound_of hm (((((CtxOK.nil.and k_Compact).and k_SortFunc).and k_Clone).and k_Contains).and k_isMark) (fun l => A_iClauseOf l) (by kernel_rfl) fun (l : List Int) hl => (by
  have hl' : l.length ≤ 1073741824 := hl
  rw [← vc_iClauseOf l]
  simp [-List.getD_eq_getElem?_getD, -List.mem_cons, -Bool.forall_bool, -Bool.exists_bool, and_assoc, peta, tl_inj, ex_1, ex_2, ex_3, ex_4, ex_5, ex_6, ex_7, ex_8, ex_9, ey_2, ey_3, ey_4, ey_5, ey_6, ey_7, ey_8, ey_9]
  have no : l.all (Pl.fineMark l) = false → (Pl.clauseOf l).fst = [] ∧ (Pl.clauseOf l).snd = false := fun h => by rw [Pl.clauseOf_no h]; exact ⟨rfl, rfl⟩
  refine ⟨⟨0, by simp, by simp, rfl⟩, fun k hk he => ⟨fun hlt => ?_, fun hge => ?_⟩⟩
  · rw [drop_get 0 hlt, List.all_cons] at he
    have nf : Pl.fineMark l (l.getD k 0) = false → l.all (Pl.fineMark l) = false := fun h => by rw [he, h]; rfl
    refine ⟨hlt, fun h => no (nf (by unfold Pl.fineMark; rw [h]; rfl)), fun h => ⟨by omega, fun g => no (nf ?_), fun g => ⟨k + 1, hlt, ?_, by omega, Cg.wrap_small (by omega) (by omega)⟩⟩⟩
    · unfold Pl.fineMark Pl.wneg
      rw [Int.zero_sub, h]
      simp only [Bool.true_and, Bool.not_eq_false', List.contains_iff_mem]
      exact g
    · have : Pl.fineMark l (l.getD k 0) = true := by
        unfold Pl.fineMark Pl.wneg
        rw [Int.zero_sub, h]
        simp only [Bool.true_and, Bool.not_eq_true']
        cases hc : l.contains (IntKind.i64.wrap (-l.getD k 0)) with
        | false => rfl
        | true => exact absurd (List.contains_iff_mem.1 hc) g
      rw [he, this]; rfl
  · rw [drop_end (by omega)] at he
    refine ⟨by omega, l, by omega, rfl, .inr rfl, fun y hp hs => ⟨y, by rw [← hp.length_eq]; omega, hp.length_eq, .inr rfl, ?_, (Pl.clauseOf_yes he).1⟩⟩
    rw [ints_take (by simp)]
    rw [List.take_append_of_le_length (Nat.le_refl _), List.take_length]
    exact Pl.sort_clause he hp hs)
end Cg
