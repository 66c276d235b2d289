/-
  The law 'FnExactAtomOk' of the program's verifier holds for every input, by the abstract machine. No condition.
-/
import Derived.Test.YtjhiaobcbbnhnaaRows
import Derived.Test.YtjhiaobcbbnhnaaAtmOk
import Derived.Test.YtjhiaobcbbnhnaaLaw
import Derived.Test.YtjhiaobcbbnhnaaSameLaw
set_option linter.unusedVariables false
namespace Go.Proofs.Ytjhiaobcbbnhnaa.fnExactAtomOk
set_option maxHeartbeats 0
open Go.ChangeShapes Go.WideShapes Go.ChangeAt Go.RowKit

theorem own : ownKnob Try.prog.godebug = none := by kernel_rfl

set_option maxRecDepth 100000 in
theorem lifted (os : Os) (started : os.Started) (H : Type) (enc : TypeId × Value → H) :
    ReturnsInHanded {} Try.checked os 11 .any (Rows.fnExactAtomOkSpec.pre6 enc Try.prog Try.f11 Rows.fnExactAtomOkRow.domain false) (Rows.fnExactAtomOkSpec.post enc Try.prog Try.f11 false true false false) := by
  refine returnsInHanded_of_change (C := Try.checked) own started (by kernel_rfl) Try.func11
    (ChangeSpec.witness6 (enc := enc) (C := Try.checked) false ⟨#[], #[.agg #[.slice none 0 0], .agg #[.int .i64 0, .string ByteArray.empty, .slice none 0 0, .string ByteArray.empty, .slice none 0 0, .slice none 0 0, .slice none 0 0, .int .i64 0, .bool false]], []⟩ 8 (by kernel_rfl) (by kernel_rfl) (by kernel_rfl) (by kernel_rfl)) ?_
  intro W base args ds gs before hval0 hW hcnd _
  have hval : ∀ (j : Nat) t v, Try.f11.params[j]? = some t → args[j]? = some v → Value.okWide Try.prog W .any base t v := hval0
  have hW' := hW
  obtain ⟨p, q, hA0, hV, hb, hfz, hnd⟩ := hW
  have hA : DataW.TrodAll enc Try.prog W 0 (fun _ => true) true Try.f11.params.toList args.toList ds p := hA0
  rw [Try.params11] at hA hval
  obtain ⟨v0, vs0, d0, ds0, p0, q0, hargs, rfl, _, h0, r0⟩ := trodAll_cons hA
  obtain ⟨v1, vs1, d1, ds1, p1, q1, rfl, rfl, _, h1, r1⟩ := trodAll_cons r0
  obtain ⟨rfl, rfl, _⟩ := trodAll_nil r1
  obtain rfl : args = #[v0, v1] := by cases args; simp_all
  obtain ⟨a0, o0, e0⟩ := Cg.Opens.arg_struct (S := fun b => b < W.heap.size) Try.underlying24 (hval 0 24 v0 rfl rfl) h0 (Cg.OpensA.struct Try.underlying24 (by kernel_rfl) (by kernel_rfl) (fun n => Cg.OpensF.one ((Cg.OpensA.sln (k := 3) (f := Cg.eY) Pl.dY Try.underlying22 (fun _ h => h) (Cg.OpensA.struct Try.underlying177 (by kernel_rfl) (by kernel_rfl) (fun n => Cg.OpensF.cons ((Cg.OpensA.string Try.underlying9) n) (Cg.OpensF.cons ((Cg.OpensA.sl1 0 Try.underlying36 (fun _ h => h) (Cg.OpensA.int Try.underlying3) (by kernel_rfl)) n) (Cg.OpensF.one ((Cg.OpensA.int Try.underlying3) n))))) (by kernel_rfl) (by decide) (fun x j hj => by match j, hj with | 0, _ => rfl | 1, _ => rfl | 2, _ => rfl)) n)))
  obtain ⟨a1, o1, e1⟩ := Cg.Opens.arg_struct (S := fun b => b < W.heap.size) Try.underlying54 (hval 1 54 v1 rfl rfl) h1 (Cg.OpensA.struct Try.underlying54 (by kernel_rfl) (by kernel_rfl) (fun n => Cg.OpensF.cons ((Cg.OpensA.int Try.underlying3) n) (Cg.OpensF.cons ((Cg.OpensA.term (tk := 50) Try.underlying52 Try.underlying9 rfl Try.underlying50 (fun _ h => h) (by kernel_rfl) (by kernel_rfl) (by kernel_rfl)) n) (Cg.OpensF.cons ((Cg.OpensA.term (tk := 50) Try.underlying52 Try.underlying9 rfl Try.underlying50 (fun _ h => h) (by kernel_rfl) (by kernel_rfl) (by kernel_rfl)) n) (Cg.OpensF.cons ((Cg.OpensA.terms (tk := 50) Try.underlying52 Try.underlying9 rfl Try.underlying50 (fun _ h => h) (by kernel_rfl) (by kernel_rfl) (by kernel_rfl)) n) (Cg.OpensF.cons ((Cg.OpensA.sl1 0 Try.underlying36 (fun _ h => h) (Cg.OpensA.int Try.underlying3) (by kernel_rfl)) n) (Cg.OpensF.cons ((Cg.OpensA.int Try.underlying3) n) (Cg.OpensF.one ((Cg.OpensA.bool Try.underlying4) n)))))))))
  exact Cg.law_post (bt := 4) (by kernel_rfl) (by kernel_rfl) rfl Try.underlying4 rfl hW' rfl
    ((Cg.pureAt_of Cg.k_xAtomOk (a0, a1) ⟨⟨o0.1, fun x hx => ⟨(o0.2 x hx).1, (o0.2 x hx).2.1.1⟩⟩, Cg.MlA.of o1⟩).calls (vals := [v0, v1]) ⟨_, _, rfl, e0, _, _, rfl, e1, rfl⟩)

theorem facts : joinedFacts Try.pinned.checked.prog 11 Try.f11 Rows.fnExactAtomOkSpec Rows.fnExactAtomOkRow = true := by
  unfold joinedFacts
  simp only [Bool.and_eq_true]
  repeat' apply And.intro
  all_goals as_aux_lemma => kernel_rfl

theorem over : Rows.fnExactAtomOkRow.holds Try.pinned (OpenSpec.ofChange Rows.fnExactAtomOkSpec) :=
  OpenClaim.holds_of_wide 11 Try.f11 rfl rfl rfl rfl rfl rfl rfl ⟨rfl, rfl, rfl, rfl, rfl⟩ rfl rfl rfl rfl rfl (by kernel_rfl) Try.func11 facts
    (of_decide_eq_true (by kernel_rfl)) (by unfold Func.isWrapper; first | (rw [if_pos (by decide +kernel)]; kernel_rfl) | (rw [if_neg (by decide +kernel)]; exact ⟨rfl, rfl⟩))
    (fun os started H enc _ => lifted os started H enc)

theorem proved : Rows.FnExactAtomOkSaid := over
end Go.Proofs.Ytjhiaobcbbnhnaa.fnExactAtomOk
