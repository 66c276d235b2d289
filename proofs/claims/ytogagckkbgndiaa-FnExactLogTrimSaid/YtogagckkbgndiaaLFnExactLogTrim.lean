/-
  The law 'FnExactLogTrim' of the program's verifier holds for every input, by the abstract machine. No condition.
-/
import Derived.Test.YtogagckkbgndiaaFnExactLogTrimB1
import Derived.Test.YtogagckkbgndiaaFnExactLogTrimB2
import Derived.Test.YtogagckkbgndiaaRows
import Derived.Test.YtogagckkbgndiaaLaw
set_option linter.unusedVariables false
namespace Go.Proofs.Ytogagckkbgndiaa.fnExactLogTrim
set_option maxHeartbeats 0
open Go.ChangeShapes Go.WideShapes Go.ChangeAt Go.RowKit

theorem own : ownKnob Try.prog.godebug = none := by kernel_rfl

set_option maxRecDepth 100000 in
theorem lifted (os : Os) (started : os.Started) (H : Type) (enc : TypeId × Value → H) :
    ReturnsInHanded {} Try.checked os 5 .any (Rows.fnExactLogTrimSpec.pre6 enc Try.prog Try.f5 Rows.fnExactLogTrimRow.domain false) (Rows.fnExactLogTrimSpec.post enc Try.prog Try.f5 false true false false) := by
  refine returnsInHanded_of_change (C := Try.checked) own started (by kernel_rfl) Try.func5
    (ChangeSpec.witness6 (enc := enc) (C := Try.checked) false ⟨#[], #[.agg #[.int .i64 0, .slice none 0 0], .slice none 0 0], []⟩ 8 (by kernel_rfl) (by kernel_rfl) (by kernel_rfl) (by kernel_rfl)) ?_
  intro W base args ds gs before hval0 hW hcnd _
  have hval : ∀ (j : Nat) t v, Try.f5.params[j]? = some t → args[j]? = some v → Value.okWide Try.prog W .any base t v := hval0
  have hW' := hW
  obtain ⟨p, q, hA0, hV, hb, hfz, hnd⟩ := hW
  have hA : DataW.TrodAll enc Try.prog W 0 (fun _ => true) true Try.f5.params.toList args.toList ds p := hA0
  rw [Try.params5] at hA hval
  obtain ⟨v0, vs0, d0, ds0, p0, q0, hargs, rfl, _, h0, r0⟩ := trodAll_cons hA
  obtain ⟨v1, vs1, d1, ds1, p1, q1, rfl, rfl, _, h1, r1⟩ := trodAll_cons r0
  obtain ⟨rfl, rfl, _⟩ := trodAll_nil r1
  obtain rfl : args = #[v0, v1] := by cases args; simp_all
  obtain ⟨a0, o0, e0⟩ := Cg.Opens.arg_struct (S := fun b => b < W.heap.size) Try.underlying24 (hval 0 24 v0 rfl rfl) h0 (Cg.OpensA.struct Try.underlying24 (by kernel_rfl) (by kernel_rfl) (fun n => Cg.OpensF.cons ((Cg.OpensA.int Try.underlying3) n) (Cg.OpensF.one ((Cg.OpensA.sl1 [] Try.underlying22 (fun _ h => h) (Cg.OpensA.sl1 0 Try.underlying25 (fun _ h => h) (Cg.OpensA.int Try.underlying3) (by kernel_rfl)) (by kernel_rfl)) n))))
  obtain ⟨a1, o1, e1⟩ := Cg.Opens.arg_slice (S := fun b => b < W.heap.size) Try.underlying22 (hval 1 22 v1 rfl rfl) h1 (Cg.OpensA.sl1 [] Try.underlying22 (fun _ h => h) (Cg.OpensA.sl1 0 Try.underlying25 (fun _ h => h) (Cg.OpensA.int Try.underlying3) (by kernel_rfl)) (by kernel_rfl))
  exact Cg.law_post (bt := 4) (by kernel_rfl) (by kernel_rfl) rfl Try.underlying4 rfl hW' rfl
    (((Cg.pureAt_of Cg.k_xLogTrim (a0, a1) ⟨⟨o0.2.1, fun x hx => (o0.2.2 x hx).1⟩, o1.1, fun x hx => (o1.2 x hx).1⟩)).calls (vals := [v0, v1]) (fun g hg => by cases hg) ⟨_, _, rfl, e0, _, _, rfl, e1, rfl⟩)

theorem facts : joinedFacts Try.pinned.checked.prog 5 Try.f5 Rows.fnExactLogTrimSpec Rows.fnExactLogTrimRow = true := by
  unfold joinedFacts
  simp only [Bool.and_eq_true]
  repeat' apply And.intro
  all_goals as_aux_lemma => kernel_rfl

theorem over : Rows.fnExactLogTrimRow.holds Try.pinned (OpenSpec.ofChange Rows.fnExactLogTrimSpec) :=
  OpenClaim.holds_of_wide 5 Try.f5 rfl rfl rfl rfl rfl rfl rfl ⟨rfl, rfl, rfl, rfl, rfl⟩ rfl rfl rfl rfl rfl (by kernel_rfl) Try.func5 facts
    (of_decide_eq_true (by kernel_rfl)) (by unfold Func.isWrapper; first | (rw [if_pos (by decide +kernel)]; kernel_rfl) | (rw [if_neg (by decide +kernel)]; exact ⟨rfl, rfl⟩))
    (fun os started H enc _ => lifted os started H enc)

theorem proved : Rows.FnExactLogTrimSaid := over
end Go.Proofs.Ytogagckkbgndiaa.fnExactLogTrim
