/-
  The law 'FnExactWhyUses' of the program's verifier holds for every input, by the abstract machine. No condition.
-/
import Derived.Test.YtfgchlkagiihnaaFnExactWhyUsesB1
import Derived.Test.YtfgchlkagiihnaaFnExactWhyUsesB2
import Derived.Test.YtfgchlkagiihnaaRows
import Derived.Test.YtfgchlkagiihnaaLaw
set_option linter.unusedVariables false
namespace Go.Proofs.Ytfgchlkagiihnaa.fnExactWhyUses
set_option maxHeartbeats 0
open Go.ChangeShapes Go.WideShapes Go.ChangeAt Go.RowKit

theorem own : ownKnob Try.prog.godebug = none := by kernel_rfl

set_option maxRecDepth 100000 in
theorem lifted (os : Os) (started : os.Started) (H : Type) (enc : TypeId × Value → H) :
    ReturnsInHanded {} Try.checked os 3 .any (Rows.fnExactWhyUsesSpec.pre6 enc Try.prog Try.f3 Rows.fnExactWhyUsesRow.domain false) (Rows.fnExactWhyUsesSpec.post enc Try.prog Try.f3 false true false false) := by
  refine returnsInHanded_of_change (C := Try.checked) own started (by kernel_rfl) Try.func3
    (ChangeSpec.witness6 (enc := enc) (C := Try.checked) false ⟨#[], #[.agg #[.int .i64 0, .int .i64 0, .string ByteArray.empty, .slice none 0 0, .slice none 0 0]], []⟩ 8 (by kernel_rfl) (by kernel_rfl) (by kernel_rfl) (by kernel_rfl)) ?_
  intro W base args ds gs before hval0 hW hcnd _
  have hval : ∀ (j : Nat) t v, Try.f3.params[j]? = some t → args[j]? = some v → Value.okWide Try.prog W .any base t v := hval0
  have hW' := hW
  obtain ⟨p, q, hA0, hV, hb, hfz, hnd⟩ := hW
  have hA : DataW.TrodAll enc Try.prog W 0 (fun _ => true) true Try.f3.params.toList args.toList ds p := hA0
  rw [Try.params3] at hA hval
  obtain ⟨v0, vs0, d0, ds0, p0, q0, hargs, rfl, _, h0, r0⟩ := trodAll_cons hA
  obtain ⟨rfl, rfl, _⟩ := trodAll_nil r0
  obtain rfl : args = #[v0] := by cases args; simp_all
  obtain ⟨a0, o0, e0⟩ := Cg.Opens.arg_struct (S := fun b => b < W.heap.size) Try.underlying27 (hval 0 27 v0 rfl rfl) h0 (Cg.OpensA.why (tk := 25) Try.underlying27 Try.underlying25 (fun _ h => h) (by kernel_rfl) (by kernel_rfl) (by kernel_rfl) (fun n h => Cg.OpensF.conv (Cg.OpensF.cons ((Cg.OpensA.int Try.underlying3) n) (Cg.OpensF.cons ((Cg.OpensA.int Try.underlying3) n) (Cg.OpensF.cons ((Cg.OpensA.term (tk := 22) Try.underlying24 Try.underlying9 rfl Try.underlying22 (fun _ h => h) (by kernel_rfl) (by kernel_rfl) (by kernel_rfl)) n) (Cg.OpensF.one h)))) (by intro _ h; exact h) (by intro _; rfl)))
  exact Cg.law_post (bt := 4) (by kernel_rfl) (by kernel_rfl) rfl Try.underlying4 rfl hW' rfl
    (((Cg.pureAt_of Cg.k_xWhyUses ((a0.1, a0.2.1, a0.2.2.1), a0.2.2.2) (Cg.MlW.of o0))).calls (vals := [v0]) (fun g hg => by cases hg) ⟨_, _, rfl, e0, rfl⟩)

theorem facts : joinedFacts Try.pinned.checked.prog 3 Try.f3 Rows.fnExactWhyUsesSpec Rows.fnExactWhyUsesRow = true := by
  unfold joinedFacts
  simp only [Bool.and_eq_true]
  repeat' apply And.intro
  all_goals as_aux_lemma => kernel_rfl

theorem over : Rows.fnExactWhyUsesRow.holds Try.pinned (OpenSpec.ofChange Rows.fnExactWhyUsesSpec) :=
  OpenClaim.holds_of_wide 3 Try.f3 rfl rfl rfl rfl rfl rfl rfl ⟨rfl, rfl, rfl, rfl, rfl⟩ rfl rfl rfl rfl rfl (by kernel_rfl) Try.func3 facts
    (of_decide_eq_true (by kernel_rfl)) (by unfold Func.isWrapper; first | (rw [if_pos (by decide +kernel)]; kernel_rfl) | (rw [if_neg (by decide +kernel)]; exact ⟨rfl, rfl⟩))
    (fun os started H enc _ => lifted os started H enc)

theorem proved : Rows.FnExactWhyUsesSaid := over
end Go.Proofs.Ytfgchlkagiihnaa.fnExactWhyUses
