/-
  What the law leans on, part 2. No condition.
-/
import Derived.Test.YtgjlbnfeghkikaaFnSigLessB1
/-
  The codes' contracts: the law that vocabularies can shrink. No condition.
-/
set_option linter.unusedVariables false
set_option linter.unusedSimpArgs false
set_option maxRecDepth 100000
namespace Cg
open Go Go.Proofs Pl
theorem k_DrawSigOk : SoundC Try.prog K_DrawSigOk.1 K_DrawSigOk.2 := sound_of hm (((CtxOK.nil.and k_l4Bent).and k_l4Sig).and k_l16Open) (fun _ => []) (by kernel_rfl) fun (b : List Int) hb => (by
  obtain ⟨h1, h2⟩ : Sz b ∧ Byt b := hb
  rw [← vc_DrawSigOk b]
  simp [-List.getD_eq_getElem?_getD, -List.mem_cons, -Bool.forall_bool, -Bool.exists_bool, and_assoc, peta, tl_inj, ex_1, ex_2, ex_3, ex_4, ex_5, ex_6, ex_7, ex_8, ex_9, ey_2, ey_3, ey_4, ey_5, ey_6, ey_7, ey_8, ey_9]
  exact ⟨by omega, h2, fun y hr => ⟨hr.to (by omega) (by omega), fun s hs =>
    ⟨y, 1, hr.to (by omega) (by omega), s, 7, 2, hs.mono (by decide) (by decide), by decide, by decide, by decide, rfl, rfl, rfl, fun s2 q2' hs2 e1 e2 => hs2⟩⟩⟩)
set_option maxHeartbeats 8000000 in
theorem g_ySigLess (b : List Int) (hb : Byt b) : GoalW Try.prog [K_DrawSigOk, K_iSigOk, K_sSigOk, K_iNameOk] (A_ySigLess) K_ySigLess.1 K_ySigLess.2 (b) := GoalW.of (vc_ySigLess b) (by
  simp (maxSteps := 2000000) [-List.getD_eq_getElem?_getD, -List.mem_cons, -Bool.forall_bool, -Bool.exists_bool, and_assoc, peta, tl_inj, ex_1, ex_2, ex_3, ex_4, ex_5, ex_6, ex_7, ex_8, ex_9, ey_2, ey_3, ey_4, ey_5, ey_6, ey_7, ey_8, ey_9]
  refine fun l1 => ⟨by omega, hb, fun s hs => ?_⟩
  refine ⟨sg_sm hs, fun _ => sg_sm hs, fun hok => ⟨⟨s, hs, hok, 0, Nat.zero_le _, rfl, rfl⟩, ?_⟩⟩
  clear hok hs
  intro s k hs hok hk hlt
  have s1 := hs.1
  rw [wrap_succ hlt (by omega), Int.toNat_natCast]
  have hA := ((Rds.take (d := dY) EncN.eY (l := s) (x := k) (by omega)).join (Rds.drop EncN.eY s (k + 1))).is
  have hB := ((Rds.take (d := dY) EncN.eY (l := s) (x := k + 1) (by omega)).join (Rds.drop EncN.eY s k)).is
  have dA : SgB 20 3 (s.take k ++ s.drop (k + 1)) := ⟨by simp; omega, fun x hx => hs.2 x ((List.mem_append.1 hx).elim List.mem_of_mem_take List.mem_of_mem_drop)⟩
  have dB : SgB 20 3 (s.take (k + 1) ++ s.drop k) := ⟨by simp; omega, fun x hx => hs.2 x ((List.mem_append.1 hx).elim List.mem_of_mem_take List.mem_of_mem_drop)⟩
  have hm := getD_mem dY hlt
  have hz := (hs.2 _ hm).1
  exact ⟨by omega, by omega, by omega, by omega, by omega, by omega, by omega, by omega, by omega, by omega, _, hA, sg_sm dA, sigOk_del hok k, fun _ => ⟨_, hB, sg_sm dB, sigOk_twice hlt, fun _ => ⟨hlt, by omega, sigOk_name hok hm, fun _ => ⟨s, hs, hok, k + 1, hlt, by omega, rfl, rfl⟩⟩⟩⟩)
theorem k_ySigLess : SoundC Try.prog K_ySigLess.1 K_ySigLess.2 := sound_ofW hm ((((CtxOK.nil.and k_iNameOk).and k_sSigOk).and k_iSigOk).and k_DrawSigOk) (fun (b : List Int) => A_ySigLess) (by kernel_rfl) fun (b : List Int) hb => g_ySigLess b hb
end Cg
