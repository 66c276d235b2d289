/-
  The law 'FnExactFormSame' of the program's verifier holds for every input, by the abstract machine. No condition.
-/
import Derived.Test.YtjhiaobcbbnhnaaRows
import Derived.Test.YtjhiaobcbbnhnaaSameOk
import Derived.Test.YtjhiaobcbbnhnaaLaw
import Derived.Test.YtjhiaobcbbnhnaaSameLaw
set_option linter.unusedVariables false
namespace Go.Proofs.Ytjhiaobcbbnhnaa.fnExactFormSame
open Go.ChangeShapes Go.WideShapes Go.ChangeAt Go.RowKit

theorem own : ownKnob Try.prog.godebug = none := by kernel_rfl

set_option maxRecDepth 100000 in
theorem lifted (os : Os) (started : os.Started) (H : Type) (enc : TypeId × Value → H) :
    ReturnsInHanded {} Try.checked os 7 .any (Rows.fnExactFormSameSpec.pre6 enc Try.prog Try.f7 Rows.fnExactFormSameRow.domain false) (Rows.fnExactFormSameSpec.post enc Try.prog Try.f7 false true false false) := by
  refine returnsInHanded_of_change (C := Try.checked) own started (by kernel_rfl) Try.func7
    (ChangeSpec.witness6 (enc := enc) (C := Try.checked) false ⟨#[], #[.agg #[.int .i64 0, .int .i64 0, .string ByteArray.empty, .slice none 0 0, .string ByteArray.empty, .slice none 0 0, .slice none 0 0, .slice none 0 0, .int .i64 0, .bool false, .bool false, .slice none 0 0], .agg #[.int .i64 0, .int .i64 0, .string ByteArray.empty, .slice none 0 0, .string ByteArray.empty, .slice none 0 0, .slice none 0 0, .slice none 0 0, .int .i64 0, .bool false, .bool false, .slice none 0 0]], []⟩ 8 (by kernel_rfl) (by kernel_rfl) (by kernel_rfl) (by kernel_rfl)) ?_
  intro W base args ds gs before hval0 hW hcnd _
  have hval : ∀ (j : Nat) t v, Try.f7.params[j]? = some t → args[j]? = some v → Value.okWide Try.prog W .any base t v := hval0
  have hW' := hW
  obtain ⟨p, q, hA0, hV, hb, hfz, hnd⟩ := hW
  have hA : DataW.TrodAll enc Try.prog W 0 (fun _ => true) true Try.f7.params.toList args.toList ds p := hA0
  rw [Try.params7] at hA hval
  obtain ⟨v0, vs0, d0, ds0, p0, q0, hargs, rfl, _, h0, r0⟩ := trodAll_cons hA
  obtain ⟨v1, vs1, d1, ds1, p1, q1, rfl, rfl, _, h1, r1⟩ := trodAll_cons r0
  obtain ⟨rfl, rfl, _⟩ := trodAll_nil r1
  obtain rfl : args = #[v0, v1] := by cases args; simp_all
  obtain ⟨a0, o0, e0⟩ := Cg.Opens.arg_struct (S := fun b => b < W.heap.size) Try.underlying68 (hval 0 68 v0 rfl rfl) h0 (Cg.OpensA.form (tk := 66) Try.underlying68 Try.underlying66 (fun _ h => h) (by kernel_rfl) (by kernel_rfl) (by kernel_rfl) (fun n h => Cg.OpensF.conv (Cg.OpensF.cons ((Cg.OpensA.int Try.underlying3) n) (Cg.OpensF.cons ((Cg.OpensA.struct Try.underlying65 (by kernel_rfl) (by kernel_rfl) (fun n => Cg.OpensF.cons ((Cg.OpensA.struct Try.underlying54 (by kernel_rfl) (by kernel_rfl) (fun n => Cg.OpensF.cons ((Cg.OpensA.int Try.underlying3) n) (Cg.OpensF.cons ((Cg.OpensA.term (tk := 50) Try.underlying52 Try.underlying9 rfl Try.underlying50 (fun _ h => h) (by kernel_rfl) (by kernel_rfl) (by kernel_rfl)) n) (Cg.OpensF.cons ((Cg.OpensA.term (tk := 50) Try.underlying52 Try.underlying9 rfl Try.underlying50 (fun _ h => h) (by kernel_rfl) (by kernel_rfl) (by kernel_rfl)) n) (Cg.OpensF.cons ((Cg.OpensA.terms (tk := 50) Try.underlying52 Try.underlying9 rfl Try.underlying50 (fun _ h => h) (by kernel_rfl) (by kernel_rfl) (by kernel_rfl)) n) (Cg.OpensF.cons ((Cg.OpensA.sl1 0 Try.underlying36 (fun _ h => h) (Cg.OpensA.int Try.underlying3) (by kernel_rfl)) n) (Cg.OpensF.cons ((Cg.OpensA.int Try.underlying3) n) (Cg.OpensF.one ((Cg.OpensA.bool Try.underlying4) n))))))))) n) (Cg.OpensF.one ((Cg.OpensA.bool Try.underlying4) n)))) n) (Cg.OpensF.one h))) (by intro _ h; exact h) (by intro _; rfl)))
  obtain ⟨a1, o1, e1⟩ := Cg.Opens.arg_struct (S := fun b => b < W.heap.size) Try.underlying68 (hval 1 68 v1 rfl rfl) h1 (Cg.OpensA.form (tk := 66) Try.underlying68 Try.underlying66 (fun _ h => h) (by kernel_rfl) (by kernel_rfl) (by kernel_rfl) (fun n h => Cg.OpensF.conv (Cg.OpensF.cons ((Cg.OpensA.int Try.underlying3) n) (Cg.OpensF.cons ((Cg.OpensA.struct Try.underlying65 (by kernel_rfl) (by kernel_rfl) (fun n => Cg.OpensF.cons ((Cg.OpensA.struct Try.underlying54 (by kernel_rfl) (by kernel_rfl) (fun n => Cg.OpensF.cons ((Cg.OpensA.int Try.underlying3) n) (Cg.OpensF.cons ((Cg.OpensA.term (tk := 50) Try.underlying52 Try.underlying9 rfl Try.underlying50 (fun _ h => h) (by kernel_rfl) (by kernel_rfl) (by kernel_rfl)) n) (Cg.OpensF.cons ((Cg.OpensA.term (tk := 50) Try.underlying52 Try.underlying9 rfl Try.underlying50 (fun _ h => h) (by kernel_rfl) (by kernel_rfl) (by kernel_rfl)) n) (Cg.OpensF.cons ((Cg.OpensA.terms (tk := 50) Try.underlying52 Try.underlying9 rfl Try.underlying50 (fun _ h => h) (by kernel_rfl) (by kernel_rfl) (by kernel_rfl)) n) (Cg.OpensF.cons ((Cg.OpensA.sl1 0 Try.underlying36 (fun _ h => h) (Cg.OpensA.int Try.underlying3) (by kernel_rfl)) n) (Cg.OpensF.cons ((Cg.OpensA.int Try.underlying3) n) (Cg.OpensF.one ((Cg.OpensA.bool Try.underlying4) n))))))))) n) (Cg.OpensF.one ((Cg.OpensA.bool Try.underlying4) n)))) n) (Cg.OpensF.one h))) (by intro _ h; exact h) (by intro _; rfl)))
  exact Cg.law_post (bt := 4) (by kernel_rfl) (by kernel_rfl) rfl Try.underlying4 rfl hW' rfl
    ((Cg.pureAt_of Cg.k_xFormSame (((a0.1, a0.2.1), a0.2.2), ((a1.1, a1.2.1), a1.2.2)) ⟨Cg.MlF.of o0, Cg.MlF.of o1⟩).calls (vals := [v0, v1]) ⟨_, _, rfl, e0, _, _, rfl, e1, rfl⟩)

theorem over : Rows.fnExactFormSameRow.holds Try.pinned (OpenSpec.ofChange Rows.fnExactFormSameSpec) :=
  OpenClaim.holds_of_wide 7 Try.f7 rfl rfl rfl rfl rfl rfl rfl ⟨rfl, rfl, rfl, rfl, rfl⟩ rfl rfl rfl rfl rfl (by kernel_rfl) Try.func7 (by kernel_rfl)
    (of_decide_eq_true (by kernel_rfl)) (by unfold Func.isWrapper; first | (rw [if_pos (by decide +kernel)]; kernel_rfl) | (rw [if_neg (by decide +kernel)]; exact ⟨rfl, rfl⟩))
    (fun os started H enc _ => lifted os started H enc)

theorem proved : Rows.FnExactFormSameSaid := over
end Go.Proofs.Ytjhiaobcbbnhnaa.fnExactFormSame
