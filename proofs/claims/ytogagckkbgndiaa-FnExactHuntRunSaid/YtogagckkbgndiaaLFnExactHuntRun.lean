/-
  The law 'FnExactHuntRun' of the program's verifier holds for every input, by the abstract machine. No condition.
-/
import Derived.Test.YtogagckkbgndiaaFnExactHuntRunB1
import Derived.Test.YtogagckkbgndiaaFnExactHuntRunB2
import Derived.Test.YtogagckkbgndiaaRows
import Derived.Test.YtogagckkbgndiaaLaw
set_option linter.unusedVariables false
namespace Go.Proofs.Ytogagckkbgndiaa.fnExactHuntRun
set_option maxHeartbeats 0
open Go.ChangeShapes Go.WideShapes Go.ChangeAt Go.RowKit

theorem own : ownKnob Try.prog.godebug = none := by kernel_rfl

set_option maxRecDepth 100000 in
theorem lifted (os : Os) (started : os.Started) (H : Type) (enc : TypeId × Value → H) :
    ReturnsInHanded {} Try.checked os 4 .any (Rows.fnExactHuntRunSpec.pre6 enc Try.prog Try.f4 Rows.fnExactHuntRunRow.domain false) (Rows.fnExactHuntRunSpec.post enc Try.prog Try.f4 false true false false) := by
  refine returnsInHanded_of_change (C := Try.checked) own started (by kernel_rfl) Try.func4
    (ChangeSpec.witness6 (enc := enc) (C := Try.checked) false ⟨#[], #[.agg #[.int .i64 0, .slice none 0 0], .int .i64 0], []⟩ 8 (by kernel_rfl) (by kernel_rfl) (by kernel_rfl) (by kernel_rfl)) ?_
  intro W base args ds gs before hval0 hW hcnd _
  have hval : ∀ (j : Nat) t v, Try.f4.params[j]? = some t → args[j]? = some v → Value.okWide Try.prog W .any base t v := hval0
  have hW' := hW
  obtain ⟨p, q, hA0, hV, hb, hfz, hnd⟩ := hW
  have hA : DataW.TrodAll enc Try.prog W 0 (fun _ => true) true Try.f4.params.toList args.toList ds p := hA0
  rw [Try.params4] at hA hval
  obtain ⟨v0, vs0, d0, ds0, p0, q0, hargs, rfl, _, h0, r0⟩ := trodAll_cons hA
  obtain ⟨v1, vs1, d1, ds1, p1, q1, rfl, rfl, _, h1, r1⟩ := trodAll_cons r0
  obtain ⟨rfl, rfl, _⟩ := trodAll_nil r1
  obtain rfl : args = #[v0, v1] := by cases args; simp_all
  obtain ⟨a0, o0, e0⟩ := Cg.Opens.arg_struct (S := fun b => b < W.heap.size) Try.underlying24 (hval 0 24 v0 rfl rfl) h0 (Cg.OpensA.struct Try.underlying24 (by kernel_rfl) (by kernel_rfl) (fun n => Cg.OpensF.cons ((Cg.OpensA.int Try.underlying3) n) (Cg.OpensF.one ((Cg.OpensA.sl1 [] Try.underlying22 (fun _ h => h) (Cg.OpensA.sl1 0 Try.underlying25 (fun _ h => h) (Cg.OpensA.int Try.underlying3) (by kernel_rfl)) (by kernel_rfl)) n))))
  obtain ⟨a1, o1, e1⟩ := Cg.Opens.arg_int (S := fun b => b < W.heap.size) Try.underlying3 (hval 1 3 v1 rfl rfl) h1
  exact Cg.law_post (bt := 4) (by kernel_rfl) (by kernel_rfl) rfl Try.underlying4 rfl hW' rfl
    ((Cg.pureAt_of Cg.k_xHuntRun (a0, a1) ⟨o0.2.1, fun x hx => (o0.2.2 x hx).1⟩).calls (vals := [v0, v1]) (fun g hg => by cases hg) ⟨_, _, rfl, e0, _, _, rfl, e1, rfl⟩)

theorem facts : joinedFacts Try.pinned.checked.prog 4 Try.f4 Rows.fnExactHuntRunSpec Rows.fnExactHuntRunRow = true := by
  unfold joinedFacts
  simp only [Bool.and_eq_true]
  repeat' apply And.intro
  all_goals as_aux_lemma => kernel_rfl

theorem over : Rows.fnExactHuntRunRow.holds Try.pinned (OpenSpec.ofChange Rows.fnExactHuntRunSpec) :=
  OpenClaim.holds_of_wide 4 Try.f4 rfl rfl rfl rfl rfl rfl rfl ⟨rfl, rfl, rfl, rfl, rfl⟩ rfl rfl rfl rfl rfl (by kernel_rfl) Try.func4 facts
    (of_decide_eq_true (by kernel_rfl)) (by unfold Func.isWrapper; first | (rw [if_pos (by decide +kernel)]; kernel_rfl) | (rw [if_neg (by decide +kernel)]; exact ⟨rfl, rfl⟩))
    (fun os started H enc _ => lifted os started H enc)

theorem proved : Rows.FnExactHuntRunSaid := over
end Go.Proofs.Ytogagckkbgndiaa.fnExactHuntRun
