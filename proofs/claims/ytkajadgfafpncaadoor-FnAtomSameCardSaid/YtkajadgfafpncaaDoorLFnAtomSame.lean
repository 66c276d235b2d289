/-
  The law 'FnAtomSame' of the program's verifier holds for every input, by the abstract machine. No condition.
-/
import Derived.Test.YtkajadgfafpncaaDoorFnAtomSameB1
import Derived.Test.YtkajadgfafpncaaDoorFnAtomSameB2
import Derived.Test.YtkajadgfafpncaaDoorFnAtomSameB3
import Derived.Test.YtkajadgfafpncaaDoorRows
import Derived.Test.YtkajadgfafpncaaDoorLaw
import Derived.Test.YtkajadgfafpncaaDoorTie
import Derived.Test.YtkajadgfafpncaaDoorCards
import Derived.SevenTiedAt
set_option linter.unusedVariables false
namespace Go.Proofs.YtkajadgfafpncaaDoor.fnAtomSame
set_option maxHeartbeats 0
open Go.ChangeShapes Go.WideShapes Go.ChangeAt Go.RowKit

theorem own : ownKnob Tryd.prog.godebug = none := by kernel_rfl

set_option maxRecDepth 100000 in
theorem lifted (os : Os) (started : os.Started) (H : Type) (enc : TypeId × Value → H) :
    ReturnsInHanded {} Tryd.checked os 5 .any (fun w args => (Rows.fnAtomSameSpec.pre enc Tryd.prog Tryd.f5 Rows.fnAtomSameRow.domain false w args ∧ laidMetH Tryd.prog laidL w) ∧ sizedMet enc Tryd.prog Tryd.f5 (OpenSpec.ofChange Rows.fnAtomSameSpec) false w args) (Rows.fnAtomSameSpec.post enc Tryd.prog Tryd.f5 false true false false) := by
  refine returnsInHanded_of_change_and (C := Tryd.checked) (X := fun w _ => laidMetH Tryd.prog laidL w) (fun _ _ _ hh h => h.of_heap hh) own started (by kernel_rfl) Tryd.func5
    (ChangeSpec.witness_shaped (enc := enc) (C := Tryd.checked) (os := os) (X := fun w _ => laidMetH Tryd.prog laidL w) false (World.doorLaid Tryd.prog 24 os) #[.slice none 0 0] 8 rfl (World.shaped_of_RefB (by kernel_rfl) (by kernel_rfl)) (by kernel_rfl) (by kernel_rfl) (by kernel_rfl) (door_met os _)) ?_
  intro W base args ds gs before hval0 hW hcnd _ hL _
  have hval : ∀ (j : Nat) t v, Tryd.f5.params[j]? = some t → args[j]? = some v → Value.okWide Tryd.prog W .any base t v := hval0
  have hW' := hW
  obtain ⟨p, q, hA0, hV, hb, hfz, hnd⟩ := hW
  have hA : DataW.TrodAll enc Tryd.prog W 0 (fun _ => true) true Tryd.f5.params.toList args.toList ds p := hA0
  rw [Tryd.params5] at hA hval
  obtain ⟨v0, vs0, d0, ds0, p0, q0, hargs, rfl, _, h0, r0⟩ := trodAll_cons hA
  obtain ⟨rfl, rfl, _⟩ := trodAll_nil r0
  obtain rfl : args = #[v0] := by cases args; simp_all
  obtain ⟨a0, o0, e0⟩ := Cg.Opens.arg_slice (S := fun b => b < W.heap.size) Tryd.underlying47 (hval 0 47 v0 rfl rfl) h0 (Cg.OpensA.sl1 0 Tryd.underlying47 (fun _ h => h) (Cg.OpensA.int Tryd.underlying5) (by kernel_rfl))
  exact Cg.law_post (bt := 4) (by kernel_rfl) (by kernel_rfl) rfl Tryd.underlying4 rfl hW' rfl
    ((Cg.pureAt_of Cg.k_yAtomSame a0 (Cg.byt_of o0.2)).calls (vals := [v0]) (gl_laid hL) ⟨_, _, rfl, e0, rfl⟩)

theorem facts : joinedFacts Tryd.pinned.checked.prog 5 Tryd.f5 Rows.fnAtomSameSpec Rows.fnAtomSameRow = true := by
  unfold joinedFacts
  simp only [Bool.and_eq_true]
  repeat' apply And.intro
  all_goals as_aux_lemma => kernel_rfl

theorem over : Rows.fnAtomSameRow.holds Tryd.pinned (OpenSpec.ofChange Rows.fnAtomSameSpec) :=
  OpenClaim.holds_of_wide 5 Tryd.f5 rfl rfl rfl rfl rfl rfl rfl ⟨rfl, rfl, rfl, rfl, rfl⟩ rfl rfl rfl rfl rfl (by kernel_rfl) Tryd.func5 facts
    (of_decide_eq_true (by kernel_rfl)) (by unfold Func.isWrapper; first | (rw [if_pos (by decide +kernel)]; kernel_rfl) | (rw [if_neg (by decide +kernel)]; exact ⟨rfl, rfl⟩))
    (fun os started H enc _ => lifted os started H enc)

theorem proved : Rows.FnAtomSameCardSaid :=
  Claim7.holds_tied_plain_at .later [] [.data, .data, .data] true (true, "cd8c37c564f92b9fb134e3e49029aa5558747c59e60af8301dde361a8ddd3305") false
    over (fun _ h => by cases h) (by kernel_rfl) (fun _ h => by cases h) fnAtomSame_row_tie rfl ⟨rfl, rfl⟩ (by kernel_rfl) rfl
    (fun f fn hf hfn => by
      obtain rfl : f = 5 := Option.some.inj ((show Tryd.prog.funcNamed "loop.example/compurgator/laws.FnAtomSame" = some 5 by kernel_rfl).symm.trans hf) |>.symm
      obtain rfl : fn = Tryd.f5 := (Option.some.inj (Tryd.func5.symm.trans hfn)).symm
      exact ⟨by kernel_rfl, fun j t ht => by
        rw [Tryd.params5] at ht
        have hm : t ∈ [47] := by simpa using Array.mem_of_getElem? ht
        have hall : ([47].all fun u => !Tryd.prog.wantsStandIn u) = true := by kernel_rfl
        exact (show Tryd.prog.wantsStandIn t = false by simpa using List.all_eq_true.1 hall t hm)⟩)
    (by kernel_rfl)
end Go.Proofs.YtkajadgfafpncaaDoor.fnAtomSame
