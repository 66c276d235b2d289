/-
  The law 'FnModelTurn' of the program's verifier holds for every input, by the abstract machine. No condition.
-/
import Derived.Test.YtmahkigckeaakaaGreatFnModelTurnB1
import Derived.Test.YtmahkigckeaakaaGreatFnModelTurnB2
import Derived.Test.YtmahkigckeaakaaGreatFnModelTurnB3
import Derived.Test.YtmahkigckeaakaaGreatFnModelTurnB4
import Derived.Test.YtmahkigckeaakaaGreatFnModelTurnB5
import Derived.Test.YtmahkigckeaakaaGreatRows
import Derived.Test.YtmahkigckeaakaaGreatLaw
set_option linter.unusedVariables false
namespace Go.Proofs.YtmahkigckeaakaaGreat.fnModelTurn
set_option maxHeartbeats 0
open Go.ChangeShapes Go.WideShapes Go.ChangeAt Go.RowKit

theorem own : ownKnob Tryz.prog.godebug = none := by kernel_rfl

set_option maxRecDepth 100000 in
theorem lifted (os : Os) (started : os.Started) (H : Type) (enc : TypeId × Value → H) :
    ReturnsInHanded {} Tryz.checked os 5 .any (Rows.fnModelTurnSpec.pre6 enc Tryz.prog Tryz.f5 Rows.fnModelTurnRow.domain false) (Rows.fnModelTurnSpec.post enc Tryz.prog Tryz.f5 false true false false) := by
  refine returnsInHanded_of_change (C := Tryz.checked) own started (by kernel_rfl) Tryz.func5
    (ChangeSpec.witness6 (enc := enc) (C := Tryz.checked) false ⟨#[], #[.slice none 0 0], []⟩ 8 (by kernel_rfl) (by kernel_rfl) (by kernel_rfl) (by kernel_rfl)) ?_
  intro W base args ds gs before hval0 hW hcnd _
  have hval : ∀ (j : Nat) t v, Tryz.f5.params[j]? = some t → args[j]? = some v → Value.okWide Tryz.prog W .any base t v := hval0
  have hW' := hW
  obtain ⟨p, q, hA0, hV, hb, hfz, hnd⟩ := hW
  have hA : DataW.TrodAll enc Tryz.prog W 0 (fun _ => true) true Tryz.f5.params.toList args.toList ds p := hA0
  rw [Tryz.params5] at hA hval
  obtain ⟨v0, vs0, d0, ds0, p0, q0, hargs, rfl, _, h0, r0⟩ := trodAll_cons hA
  obtain ⟨rfl, rfl, _⟩ := trodAll_nil r0
  obtain rfl : args = #[v0] := by cases args; simp_all
  obtain ⟨a0, o0, e0⟩ := Cg.Opens.arg_slice (S := fun b => b < W.heap.size) Tryz.underlying22 (hval 0 22 v0 rfl rfl) h0 (Cg.OpensA.sl1 0 Tryz.underlying22 (fun _ h => h) (Cg.OpensA.int Tryz.underlying5) (by kernel_rfl))
  exact Cg.law_post (bt := 4) (by kernel_rfl) (by kernel_rfl) rfl Tryz.underlying4 rfl hW' rfl
    ((Cg.pureAt_of Cg.k_yModelTurn a0 (Cg.byt_of o0.2)).calls (vals := [v0]) ⟨_, _, rfl, e0, rfl⟩)

theorem facts : joinedFacts Tryz.pinned.checked.prog 5 Tryz.f5 Rows.fnModelTurnSpec Rows.fnModelTurnRow = true := by
  unfold joinedFacts
  simp only [Bool.and_eq_true]
  repeat' apply And.intro
  all_goals as_aux_lemma => kernel_rfl

theorem over : Rows.fnModelTurnRow.holds Tryz.pinned (OpenSpec.ofChange Rows.fnModelTurnSpec) :=
  OpenClaim.holds_of_wide 5 Tryz.f5 rfl rfl rfl rfl rfl rfl rfl ⟨rfl, rfl, rfl, rfl, rfl⟩ rfl rfl rfl rfl rfl (by kernel_rfl) Tryz.func5 facts
    (of_decide_eq_true (by kernel_rfl)) (by unfold Func.isWrapper; first | (rw [if_pos (by decide +kernel)]; kernel_rfl) | (rw [if_neg (by decide +kernel)]; exact ⟨rfl, rfl⟩))
    (fun os started H enc _ => lifted os started H enc)

theorem proved : Rows.FnModelTurnSaid := over
end Go.Proofs.YtmahkigckeaakaaGreat.fnModelTurn
