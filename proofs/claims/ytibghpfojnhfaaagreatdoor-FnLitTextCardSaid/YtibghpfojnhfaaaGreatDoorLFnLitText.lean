/-
  The law 'FnLitText' of the program's verifier holds for every input, by the abstract machine. No condition.
-/
import Derived.Test.YtibghpfojnhfaaaGreatDoorFnLitTextB1
import Derived.Test.YtibghpfojnhfaaaGreatDoorFnLitTextB2
import Derived.Test.YtibghpfojnhfaaaGreatDoorFnLitTextB3
import Derived.Test.YtibghpfojnhfaaaGreatDoorFnLitTextB4
import Derived.Test.YtibghpfojnhfaaaGreatDoorFnLitTextB5
import Derived.Test.YtibghpfojnhfaaaGreatDoorRows
import Derived.Test.YtibghpfojnhfaaaGreatDoorLaw
import Derived.Test.YtibghpfojnhfaaaGreatDoorTie
import Derived.Test.YtibghpfojnhfaaaGreatDoorCards
import Derived.SevenTiedAt
set_option linter.unusedVariables false
namespace Go.Proofs.YtibghpfojnhfaaaGreatDoor.fnLitText
set_option maxHeartbeats 0
open Go.ChangeShapes Go.WideShapes Go.ChangeAt Go.RowKit

theorem own : ownKnob Tryz.prog.godebug = none := by kernel_rfl

set_option maxRecDepth 100000 in
theorem lifted (os : Os) (started : os.Started) (H : Type) (enc : TypeId × Value → H) :
    ReturnsInHanded {} Tryz.checked os 5 .any (fun w args => (Rows.fnLitTextSpec.pre enc Tryz.prog Tryz.f5 Rows.fnLitTextRow.domain false w args ∧ laidMetH Tryz.prog laidL w) ∧ sizedMet enc Tryz.prog Tryz.f5 (OpenSpec.ofChange Rows.fnLitTextSpec) false w args) (Rows.fnLitTextSpec.post enc Tryz.prog Tryz.f5 false true false false) := by
  refine handed_and_shaped (C := Tryz.checked) (X := fun w _ => laidMetH Tryz.prog laidL w) (fun _ _ _ hh h => h.of_heap hh) own started (by kernel_rfl) Tryz.func5
    (ChangeSpec.witness_shaped (enc := enc) (C := Tryz.checked) (os := os) (X := fun w _ => laidMetH Tryz.prog laidL w) false (World.laidAll Tryz.prog os laidL) #[.slice none 0 0, .slice none 0 0] 8 (World.laidAll_os _ _ _) (World.shaped_of_ZipB (by kernel_rfl) (by kernel_rfl)) (by kernel_rfl) (by kernel_rfl) (by kernel_rfl) (door_met os _)) ?_
  intro W base args ds gs before hval0 hW hcnd hL hsh
  have hval : ∀ (j : Nat) t v, Tryz.f5.params[j]? = some t → args[j]? = some v → Value.okWide Tryz.prog W .any base t v := hval0
  have hW' := hW
  obtain ⟨p, q, hA0, hV, hb, hfz, hnd⟩ := hW
  have hA : DataW.TrodAll enc Tryz.prog W 0 (fun _ => true) true Tryz.f5.params.toList args.toList ds p := hA0
  rw [Tryz.params5] at hA hval
  obtain ⟨v0, vs0, d0, ds0, p0, q0, hargs, rfl, _, h0, r0⟩ := trodAll_cons hA
  obtain ⟨v1, vs1, d1, ds1, p1, q1, rfl, rfl, _, h1, r1⟩ := trodAll_cons r0
  obtain ⟨rfl, rfl, _⟩ := trodAll_nil r1
  obtain rfl : args = #[v0, v1] := by cases args; simp_all
  obtain ⟨a0, o0, e0⟩ := Cg.Opens.arg_slice (S := fun b => b < W.heap.size) Tryz.underlying35 (hval 0 35 v0 rfl rfl) h0 (Cg.OpensA.sl1 0 Tryz.underlying35 (fun _ h => h) (Cg.OpensA.int Tryz.underlying5) (by kernel_rfl))
  obtain ⟨a1, o1, e1⟩ := Cg.Opens.arg_slice (S := fun b => b < W.heap.size) Tryz.underlying35 (hval 1 35 v1 rfl rfl) h1 (Cg.OpensA.sl1 0 Tryz.underlying35 (fun _ h => h) (Cg.OpensA.int Tryz.underlying5) (by kernel_rfl))
  exact Cg.law_post (bt := 4) (by kernel_rfl) (by kernel_rfl) rfl Tryz.underlying4 rfl hW' rfl
    (((Cg.pureAt_of Cg.k_yLitText (a0, a1) ⟨Cg.byt_of o0.2, Cg.byt_of o1.2⟩)).calls (vals := [v0, v1]) (gl_laid hL hsh) ⟨_, _, rfl, e0, _, _, rfl, e1, rfl⟩)

theorem facts : joinedFacts Tryz.pinned.checked.prog 5 Tryz.f5 Rows.fnLitTextSpec Rows.fnLitTextRow = true := by
  unfold joinedFacts
  simp only [Bool.and_eq_true]
  repeat' apply And.intro
  all_goals as_aux_lemma => kernel_rfl

theorem over : Rows.fnLitTextRow.holds Tryz.pinned (OpenSpec.ofChange Rows.fnLitTextSpec) :=
  OpenClaim.holds_of_wide 5 Tryz.f5 rfl rfl rfl rfl rfl rfl rfl ⟨rfl, rfl, rfl, rfl, rfl⟩ rfl rfl rfl rfl rfl (by kernel_rfl) Tryz.func5 facts
    (of_decide_eq_true (by kernel_rfl)) (by unfold Func.isWrapper; first | (rw [if_pos (by decide +kernel)]; kernel_rfl) | (rw [if_neg (by decide +kernel)]; exact ⟨rfl, rfl⟩))
    (fun os started H enc _ => lifted os started H enc)

theorem proved : Rows.FnLitTextCardSaid :=
  Claim7.holds_tied_plain_at .later [] [.data, .data, .data, .data, .sentinel, .sentinel, .pinned] true (true, "fcd4e78791ce48845af9ce1695543383caccc6f9b9dd578cfc65ef777ffc54b2") true
    over (fun _ h => by cases h) (by kernel_rfl) (fun _ h => by cases h) fnLitText_row_tie rfl ⟨rfl, rfl⟩ (by kernel_rfl) rfl
    (fun f fn hf hfn => by
      obtain rfl : f = 5 := Option.some.inj ((show Tryz.prog.funcNamed "loop.example/compurgator/laws.FnLitText" = some 5 by kernel_rfl).symm.trans hf) |>.symm
      obtain rfl : fn = Tryz.f5 := (Option.some.inj (Tryz.func5.symm.trans hfn)).symm
      exact ⟨by kernel_rfl, fun j t ht => by
        rw [Tryz.params5] at ht
        have hm : t ∈ [35, 35] := by simpa using Array.mem_of_getElem? ht
        have hall : ([35, 35].all fun u => !Tryz.prog.wantsStandIn u) = true := by kernel_rfl
        exact (show Tryz.prog.wantsStandIn t = false by simpa using List.all_eq_true.1 hall t hm)⟩)
    (by kernel_rfl)
end Go.Proofs.YtibghpfojnhfaaaGreatDoor.fnLitText
