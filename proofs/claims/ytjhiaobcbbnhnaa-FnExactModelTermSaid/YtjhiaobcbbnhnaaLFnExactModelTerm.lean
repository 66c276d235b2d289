/-
  The law 'FnExactModelTerm' of the program's verifier holds for every input, by the abstract machine. No condition.
-/
import Derived.Test.YtjhiaobcbbnhnaaRows
import Derived.Test.YtjhiaobcbbnhnaaMtmOk
import Derived.Test.YtjhiaobcbbnhnaaLaw
import Derived.Test.YtjhiaobcbbnhnaaTreeLaw
set_option linter.unusedVariables false
namespace Go.Proofs.Ytjhiaobcbbnhnaa.fnExactModelTerm
set_option maxHeartbeats 0
open Go.ChangeShapes Go.WideShapes Go.ChangeAt Go.RowKit

theorem own : ownKnob Try.prog.godebug = none := by kernel_rfl

set_option maxRecDepth 100000 in
theorem lifted (os : Os) (started : os.Started) (H : Type) (enc : TypeId × Value → H) :
    ReturnsInHanded {} Try.checked os 13 .any (Rows.fnExactModelTermSpec.pre6 enc Try.prog Try.f13 Rows.fnExactModelTermRow.domain false) (Rows.fnExactModelTermSpec.post enc Try.prog Try.f13 false true false false) := by
  refine returnsInHanded_of_change (C := Try.checked) own started (by kernel_rfl) Try.func13
    (ChangeSpec.witness6 (enc := enc) (C := Try.checked) false ⟨#[], #[.agg #[.slice none 0 0], .agg #[.slice none 0 0], .agg #[.string ByteArray.empty, .slice none 0 0]], []⟩ 8 (by kernel_rfl) (by kernel_rfl) (by kernel_rfl) (by kernel_rfl)) ?_
  intro W base args ds gs before hval0 hW hcnd _
  have hval : ∀ (j : Nat) t v, Try.f13.params[j]? = some t → args[j]? = some v → Value.okWide Try.prog W .any base t v := hval0
  have hW' := hW
  obtain ⟨p, q, hA0, hV, hb, hfz, hnd⟩ := hW
  have hA : DataW.TrodAll enc Try.prog W 0 (fun _ => true) true Try.f13.params.toList args.toList ds p := hA0
  rw [Try.params13] at hA hval
  obtain ⟨v0, vs0, d0, ds0, p0, q0, hargs, rfl, _, h0, r0⟩ := trodAll_cons hA
  obtain ⟨v1, vs1, d1, ds1, p1, q1, rfl, rfl, _, h1, r1⟩ := trodAll_cons r0
  obtain ⟨v2, vs2, d2, ds2, p2, q2, rfl, rfl, _, h2, r2⟩ := trodAll_cons r1
  obtain ⟨rfl, rfl, _⟩ := trodAll_nil r2
  obtain rfl : args = #[v0, v1, v2] := by cases args; simp_all
  obtain ⟨a0, o0, e0⟩ := Cg.Opens.arg_struct (S := fun b => b < W.heap.size) Try.underlying24 (hval 0 24 v0 rfl rfl) h0 (Cg.OpensA.struct Try.underlying24 (by kernel_rfl) (by kernel_rfl) (fun n => Cg.OpensF.one ((Cg.OpensA.sln (k := 3) (f := Cg.eY) Pl.dY Try.underlying22 (fun _ h => h) (Cg.OpensA.struct Try.underlying177 (by kernel_rfl) (by kernel_rfl) (fun n => Cg.OpensF.cons ((Cg.OpensA.string Try.underlying9) n) (Cg.OpensF.cons ((Cg.OpensA.sl1 0 Try.underlying36 (fun _ h => h) (Cg.OpensA.int Try.underlying3) (by kernel_rfl)) n) (Cg.OpensF.one ((Cg.OpensA.int Try.underlying3) n))))) (by kernel_rfl) (by decide) (fun x j hj => by match j, hj with | 0, _ => rfl | 1, _ => rfl | 2, _ => rfl)) n)))
  obtain ⟨a1, o1, e1⟩ := Cg.Opens.arg_struct (S := fun b => b < W.heap.size) Try.underlying42 (hval 1 42 v1 rfl rfl) h1 (Cg.OpensA.struct Try.underlying42 (by kernel_rfl) (by kernel_rfl) (fun n => Cg.OpensF.one ((Cg.OpensA.sln (k := 4) (f := Cg.eR) Pl.dR Try.underlying40 (fun _ h => h) (Cg.OpensA.struct Try.underlying192 (by kernel_rfl) (by kernel_rfl) (fun n => Cg.OpensF.cons ((Cg.OpensA.string Try.underlying9) n) (Cg.OpensF.cons ((Cg.OpensA.sln (k := 2) (f := Cg.eQ) Pl.dQ Try.underlying189 (fun _ h => h) (Cg.OpensA.struct Try.underlying190 (by kernel_rfl) (by kernel_rfl) (fun n => Cg.OpensF.cons ((Cg.OpensA.int Try.underlying3) n) (Cg.OpensF.one ((Cg.OpensA.int Try.underlying3) n)))) (by kernel_rfl) (by decide) (fun x j hj => by match j, hj with | 0, _ => rfl | 1, _ => rfl)) n) (Cg.OpensF.one ((Cg.OpensA.struct Try.underlying190 (by kernel_rfl) (by kernel_rfl) (fun n => Cg.OpensF.cons ((Cg.OpensA.int Try.underlying3) n) (Cg.OpensF.one ((Cg.OpensA.int Try.underlying3) n)))) n))))) (by kernel_rfl) (by decide) (fun x j hj => by match j, hj with | 0, _ => rfl | 1, _ => rfl | 2, _ => rfl | 3, _ => rfl)) n)))
  obtain ⟨a2, o2, e2⟩ := Cg.Opens.arg_struct (S := fun b => b < W.heap.size) Try.underlying52 (hval 2 52 v2 rfl rfl) h2 (Cg.OpensA.term (tk := 50) Try.underlying52 Try.underlying9 rfl Try.underlying50 (fun _ h => h) (by kernel_rfl) (by kernel_rfl) (by kernel_rfl))
  exact Cg.law_post (bt := 4) (by kernel_rfl) (by kernel_rfl) rfl Try.underlying4 rfl hW' rfl
    ((Cg.pureAt_of Cg.k_xModelTerm (a0, a1, a2) ⟨⟨o0.1, fun x hx => ⟨(o0.2 x hx).1, (o0.2 x hx).2.1.1⟩⟩, ⟨o1.1, fun x hx => ⟨(o1.2 x hx).1, (o1.2 x hx).2.1.1⟩⟩, Cg.MlT.of o2⟩).calls (vals := [v0, v1, v2]) ⟨_, _, rfl, e0, _, _, rfl, e1, _, _, rfl, e2, rfl⟩)

theorem facts : joinedFacts Try.pinned.checked.prog 13 Try.f13 Rows.fnExactModelTermSpec Rows.fnExactModelTermRow = true := by
  unfold joinedFacts
  simp only [Bool.and_eq_true]
  repeat' apply And.intro
  all_goals as_aux_lemma => kernel_rfl

theorem over : Rows.fnExactModelTermRow.holds Try.pinned (OpenSpec.ofChange Rows.fnExactModelTermSpec) :=
  OpenClaim.holds_of_wide 13 Try.f13 rfl rfl rfl rfl rfl rfl rfl ⟨rfl, rfl, rfl, rfl, rfl⟩ rfl rfl rfl rfl rfl (by kernel_rfl) Try.func13 facts
    (of_decide_eq_true (by kernel_rfl)) (by unfold Func.isWrapper; first | (rw [if_pos (by decide +kernel)]; kernel_rfl) | (rw [if_neg (by decide +kernel)]; exact ⟨rfl, rfl⟩))
    (fun os started H enc _ => lifted os started H enc)

theorem proved : Rows.FnExactModelTermSaid := over
end Go.Proofs.Ytjhiaobcbbnhnaa.fnExactModelTerm
