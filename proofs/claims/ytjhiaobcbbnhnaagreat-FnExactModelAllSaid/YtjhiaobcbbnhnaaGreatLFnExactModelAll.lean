/-
  The law 'FnExactModelAll' of the program's verifier holds for every input, by the abstract machine. No condition.
-/
import Derived.Test.YtjhiaobcbbnhnaaGreatRows
import Derived.Test.YtjhiaobcbbnhnaaGreatMltOk
import Derived.Test.YtjhiaobcbbnhnaaGreatLaw
import Derived.Test.YtjhiaobcbbnhnaaGreatSameLaw
set_option linter.unusedVariables false
namespace Go.Proofs.YtjhiaobcbbnhnaaGreat.fnExactModelAll
set_option maxHeartbeats 0
open Go.ChangeShapes Go.WideShapes Go.ChangeAt Go.RowKit

theorem own : ownKnob Tryz.prog.godebug = none := by kernel_rfl

set_option maxRecDepth 100000 in
theorem lifted (os : Os) (started : os.Started) (H : Type) (enc : TypeId × Value → H) :
    ReturnsInHanded {} Tryz.checked os 4 .any (Rows.fnExactModelAllSpec.pre6 enc Tryz.prog Tryz.f4 Rows.fnExactModelAllRow.domain false) (Rows.fnExactModelAllSpec.post enc Tryz.prog Tryz.f4 false true false false) := by
  refine returnsInHanded_of_change (C := Tryz.checked) own started (by kernel_rfl) Tryz.func4
    (ChangeSpec.witness6 (enc := enc) (C := Tryz.checked) false ⟨#[], #[.agg #[.slice none 0 0], .agg #[.slice none 0 0], .slice none 0 0], []⟩ 8 (by kernel_rfl) (by kernel_rfl) (by kernel_rfl) (by kernel_rfl)) ?_
  intro W base args ds gs before hval0 hW hcnd _
  have hval : ∀ (j : Nat) t v, Tryz.f4.params[j]? = some t → args[j]? = some v → Value.okWide Tryz.prog W .any base t v := hval0
  have hW' := hW
  obtain ⟨p, q, hA0, hV, hb, hfz, hnd⟩ := hW
  have hA : DataW.TrodAll enc Tryz.prog W 0 (fun _ => true) true Tryz.f4.params.toList args.toList ds p := hA0
  rw [Tryz.params4] at hA hval
  obtain ⟨v0, vs0, d0, ds0, p0, q0, hargs, rfl, _, h0, r0⟩ := trodAll_cons hA
  obtain ⟨v1, vs1, d1, ds1, p1, q1, rfl, rfl, _, h1, r1⟩ := trodAll_cons r0
  obtain ⟨v2, vs2, d2, ds2, p2, q2, rfl, rfl, _, h2, r2⟩ := trodAll_cons r1
  obtain ⟨rfl, rfl, _⟩ := trodAll_nil r2
  obtain rfl : args = #[v0, v1, v2] := by cases args; simp_all
  obtain ⟨a0, o0, e0⟩ := Cg.Opens.arg_struct (S := fun b => b < W.heap.size) Tryz.underlying24 (hval 0 24 v0 rfl rfl) h0 (Cg.OpensA.struct Tryz.underlying24 (by kernel_rfl) (by kernel_rfl) (fun n => Cg.OpensF.one ((Cg.OpensA.sln (k := 3) (f := Cg.eY) Pl.dY Tryz.underlying22 (fun _ h => h) (Cg.OpensA.struct Tryz.underlying88 (by kernel_rfl) (by kernel_rfl) (fun n => Cg.OpensF.cons ((Cg.OpensA.string Tryz.underlying9) n) (Cg.OpensF.cons ((Cg.OpensA.sl1 0 Tryz.underlying31 (fun _ h => h) (Cg.OpensA.int Tryz.underlying3) (by kernel_rfl)) n) (Cg.OpensF.one ((Cg.OpensA.int Tryz.underlying3) n))))) (by kernel_rfl) (by decide) (fun x j hj => by match j, hj with | 0, _ => rfl | 1, _ => rfl | 2, _ => rfl)) n)))
  obtain ⟨a1, o1, e1⟩ := Cg.Opens.arg_struct (S := fun b => b < W.heap.size) Tryz.underlying27 (hval 1 27 v1 rfl rfl) h1 (Cg.OpensA.struct Tryz.underlying27 (by kernel_rfl) (by kernel_rfl) (fun n => Cg.OpensF.one ((Cg.OpensA.sln (k := 4) (f := Cg.eR) Pl.dR Tryz.underlying25 (fun _ h => h) (Cg.OpensA.struct Tryz.underlying93 (by kernel_rfl) (by kernel_rfl) (fun n => Cg.OpensF.cons ((Cg.OpensA.string Tryz.underlying9) n) (Cg.OpensF.cons ((Cg.OpensA.sln (k := 2) (f := Cg.eQ) Pl.dQ Tryz.underlying90 (fun _ h => h) (Cg.OpensA.struct Tryz.underlying91 (by kernel_rfl) (by kernel_rfl) (fun n => Cg.OpensF.cons ((Cg.OpensA.int Tryz.underlying3) n) (Cg.OpensF.one ((Cg.OpensA.int Tryz.underlying3) n)))) (by kernel_rfl) (by decide) (fun x j hj => by match j, hj with | 0, _ => rfl | 1, _ => rfl)) n) (Cg.OpensF.one ((Cg.OpensA.struct Tryz.underlying91 (by kernel_rfl) (by kernel_rfl) (fun n => Cg.OpensF.cons ((Cg.OpensA.int Tryz.underlying3) n) (Cg.OpensF.one ((Cg.OpensA.int Tryz.underlying3) n)))) n))))) (by kernel_rfl) (by decide) (fun x j hj => by match j, hj with | 0, _ => rfl | 1, _ => rfl | 2, _ => rfl | 3, _ => rfl)) n)))
  obtain ⟨a2, o2, e2⟩ := Cg.Opens.arg_slice (S := fun b => b < W.heap.size) Tryz.underlying61 (hval 2 61 v2 rfl rfl) h2 (Cg.OpensA.sln (k := 10) (f := Cg.eL) Pl.dL Tryz.underlying61 (fun _ h => h) (Cg.OpensA.struct Tryz.underlying35 (by kernel_rfl) (by kernel_rfl) (fun n => Cg.OpensF.cons ((Cg.OpensA.struct Tryz.underlying33 (by kernel_rfl) (by kernel_rfl) (fun n => Cg.OpensF.cons ((Cg.OpensA.int Tryz.underlying3) n) (Cg.OpensF.cons ((Cg.OpensA.term (tk := 28) Tryz.underlying30 Tryz.underlying9 rfl Tryz.underlying28 (fun _ h => h) (by kernel_rfl) (by kernel_rfl) (by kernel_rfl)) n) (Cg.OpensF.cons ((Cg.OpensA.term (tk := 28) Tryz.underlying30 Tryz.underlying9 rfl Tryz.underlying28 (fun _ h => h) (by kernel_rfl) (by kernel_rfl) (by kernel_rfl)) n) (Cg.OpensF.cons ((Cg.OpensA.terms (tk := 28) Tryz.underlying30 Tryz.underlying9 rfl Tryz.underlying28 (fun _ h => h) (by kernel_rfl) (by kernel_rfl) (by kernel_rfl)) n) (Cg.OpensF.cons ((Cg.OpensA.sl1 0 Tryz.underlying31 (fun _ h => h) (Cg.OpensA.int Tryz.underlying3) (by kernel_rfl)) n) (Cg.OpensF.cons ((Cg.OpensA.int Tryz.underlying3) n) (Cg.OpensF.one ((Cg.OpensA.bool Tryz.underlying4) n))))))))) n) (Cg.OpensF.one ((Cg.OpensA.bool Tryz.underlying4) n)))) (by kernel_rfl) (by decide) (fun x j hj => by match j, hj with | 0, _ => rfl | 1, _ => rfl | 2, _ => rfl | 3, _ => rfl | 4, _ => rfl | 5, _ => rfl | 6, _ => rfl | 7, _ => rfl | 8, _ => rfl | 9, _ => rfl))
  exact Cg.law_post (bt := 4) (by kernel_rfl) (by kernel_rfl) rfl Tryz.underlying4 rfl hW' rfl
    ((Cg.pureAt_of Cg.k_xModelAll (a0, a1, a2) ⟨⟨o0.1, fun x hx => ⟨(o0.2 x hx).1, (o0.2 x hx).2.1.1⟩⟩, ⟨o1.1, fun x hx => ⟨(o1.2 x hx).1, (o1.2 x hx).2.1.1⟩⟩, ⟨o2.1, fun x hx => Cg.MlA.of (o2.2 x hx).1⟩⟩).calls (vals := [v0, v1, v2]) ⟨_, _, rfl, e0, _, _, rfl, e1, _, _, rfl, e2, rfl⟩)

theorem facts : joinedFacts Tryz.pinned.checked.prog 4 Tryz.f4 Rows.fnExactModelAllSpec Rows.fnExactModelAllRow = true := by
  unfold joinedFacts
  simp only [Bool.and_eq_true]
  repeat' apply And.intro
  all_goals as_aux_lemma => kernel_rfl

theorem over : Rows.fnExactModelAllRow.holds Tryz.pinned (OpenSpec.ofChange Rows.fnExactModelAllSpec) :=
  OpenClaim.holds_of_wide 4 Tryz.f4 rfl rfl rfl rfl rfl rfl rfl ⟨rfl, rfl, rfl, rfl, rfl⟩ rfl rfl rfl rfl rfl (by kernel_rfl) Tryz.func4 facts
    (of_decide_eq_true (by kernel_rfl)) (by unfold Func.isWrapper; first | (rw [if_pos (by decide +kernel)]; kernel_rfl) | (rw [if_neg (by decide +kernel)]; exact ⟨rfl, rfl⟩))
    (fun os started H enc _ => lifted os started H enc)

theorem proved : Rows.FnExactModelAllSaid := over
end Go.Proofs.YtjhiaobcbbnhnaaGreat.fnExactModelAll
