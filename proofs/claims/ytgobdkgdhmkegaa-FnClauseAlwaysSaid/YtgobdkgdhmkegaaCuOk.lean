/-
  The codes' contracts: unit propagation is sound. No condition.
-/
import Derived.Test.YtgobdkgdhmkegaaCuVc
import Derived.Test.YtgobdkgdhmkegaaDrawThr
set_option linter.unusedVariables false
set_option linter.unusedSimpArgs false
set_option maxRecDepth 100000
namespace Pl
open Go Cg
theorem unitsF_put (scan : List Int → List (List Int) → Option (Option Int)) (list : List (List Int)) : ∀ (k : Nat) (put : List Int), ∃ r, (unitsF scan list k put).1 = put ++ r
  | 0, put => ⟨[], by simp [unitsF]⟩
  | k + 1, put => by
    unfold unitsF
    split
    · exact ⟨[], by simp⟩
    · exact ⟨[], by simp⟩
    · rename_i l _
      obtain ⟨r, h⟩ := unitsF_put scan list k (put ++ [l])
      exact ⟨l :: r, by rw [h]; simp⟩
theorem cnfUnits_put (c : Cnf) (put : List Int) : (∃ r, (cnfUnits c put).1 = put ++ r) ∨ cnfUnits c put = ([], false) := by
  unfold cnfUnits
  split
  · exact .inl (unitsF_put _ _ _ _)
  · exact .inr rfl
theorem cnfUnits_less {c : Cnf} {put : List Int} (h : (cnfUnits c put).1.length < put.length) : cnfUnits c put = ([], false) := by
  rcases cnfUnits_put c put with ⟨r, h1⟩ | h1
  · rw [h1] at h; simp at h; omega
  · exact h1
theorem cnfUnits_get {c : Cnf} {put : List Int} (h : put.length ≤ (cnfUnits c put).1.length) {k : Nat} (hk : k < put.length) : (cnfUnits c put).1.getD k 0 = put.getD k 0 := by
  rcases cnfUnits_put c put with ⟨r, h1⟩ | h1
  · rw [h1]; simp [List.getElem?_append_left hk]
  · rw [h1] at h; simp only [List.length_nil] at h; omega
theorem one_is (x : Int) (v : List Bool) : clauseIs [x] v = lIs x v := by simp [clauseIs]
theorem cnfUnits_true {c : Cnf} {put : List Int} {v : List Bool} (h : cnfIs c v = true) (hp : ones put v = true) : (cnfUnits c put).2 = false ∧ ∀ x ∈ (cnfUnits c put).1, clauseIs [x] v = true := by
  unfold cnfUnits
  split
  · obtain ⟨h1, h2⟩ := units_true (cnfIs_cl h) 61 put fun x hx => by rw [← one_is]; exact List.all_eq_true.1 hp x hx
    exact ⟨h1, fun x hx => by rw [one_is]; exact h2 x hx⟩
  · exact ⟨rfl, fun x hx => by cases hx⟩
theorem ones_step {l : List Int} {v : List Bool} {k : Nat} (h : k < l.length) : ones (l.take (k + 1)) v = (ones (l.take k) v && clauseIs [l.getD k 0] v) := by
  unfold ones
  rw [take_succ_getD 0 h, List.all_append]; simp
end Pl
namespace Cg
open Go Go.Proofs
theorem k_yCnfUnits : SoundC Try.prog K_yCnfUnits.1 K_yCnfUnits.2 := sound_of hm (((((((CtxOK.nil.and k_iClauseIs).and k_iCnfIs).and k_wpNums).and k_sCnfUnits).and k_iCnfUnits).and k_DrawCnfIs).and k_DrawCnfUnits) (fun _ => A_yCnfUnits) (by kernel_rfl) fun (b : List Int) hb => cast (vc_yCnfUnits b) (by
  replace hb : Byt b := hb
  simp [-List.getD_eq_getElem?_getD, -List.mem_cons, -Bool.forall_bool, -Bool.exists_bool, and_assoc, peta, tl_inj, ex_1, ex_2, ex_3, ex_4, ex_5, ex_6, ex_7, ex_8, ex_9, ey_2, ey_3, ey_4, ey_5, ey_6, ey_7, ey_8, ey_9]
  refine fun hsz => ⟨by omega, hb, fun a b put hs hp => ⟨by omega, hb, fun a' b' v hs' hv => ?_⟩⟩
  obtain ⟨s1, s2⟩ : SzL b := hs.szC
  have l1 := Pl.cnfUnits_len (a, b) put
  refine ⟨s1, s2, by omega, s1, s2, by omega, by omega, fun h => ?_, fun h => ⟨s1, s2, by omega, ?_, ?_⟩⟩
  · have := Pl.cnfUnits_less h
    rw [this]; exact ⟨fun _ => rfl, rfl⟩
  · exact ⟨a, b, hs, put, hp, a', b', hs', v, hv, h, 0, by omega, rfl, rfl, rfl, rfl, by simp [Pl.ones], rfl, rfl, rfl, rfl, rfl⟩
  · clear hsz hb s1 s2 l1 h hs hp hs' hv
    clear a b put a' b' v
    intro a b put a' b' v k hs hp hs' hv h hk
    obtain ⟨s1, s2⟩ : SzL b := hs.szC
    have l1 := Pl.cnfUnits_len (a, b) put
    refine ⟨fun hlt => ⟨by omega, hlt, Pl.cnfUnits_get h hlt, fun _ => ⟨fun e1 e2 => ⟨hlt, by omega, a, b, hs, put, hp, a', b', hs', v, hv, h, k + 1, hlt, by omega, rfl, rfl, rfl, rfl, ?_, wrap_small (by omega) (by omega), rfl, rfl, rfl, rfl⟩, fun e1 => ⟨a, b, hs, put, hp, a', b', hs', v, hv, h, k + 1, hlt, by omega, rfl, rfl, rfl, rfl, ?_, wrap_small (by omega) (by omega), rfl, rfl, rfl, rfl⟩⟩⟩, fun hge e1 e2 => ⟨⟨a, b, hs, put, hp, a', b', hs', v, hv, h, 0, by omega, e1, ?_, rfl, rfl, rfl, rfl, rfl, rfl, rfl, rfl, rfl⟩, ?_⟩⟩
    · rw [Pl.ones_step hlt, e1, e2]; simp
    · intro e2
      rw [Pl.ones_step hlt, e1 e2]; rfl
    · rwa [List.take_of_length_le hge] at e2
    · clear hge hk e1 e2 s1 s2 l1 h hs hp hs' hv
      clear k a b put a' b' v
      intro a b put a' b' v k hs hp hs' hv h hk e1 e2
      have l1 := Pl.cnfUnits_len (a, b) put
      obtain ⟨u1, u2⟩ := Pl.cnfUnits_true e1 e2
      exact ⟨fun hlt => ⟨hlt, by omega, u2 _ (getD_mem 0 hlt), fun _ => ⟨a, b, hs, put, hp, a', b', hs', v, hv, h, k + 1, hlt, e1, e2, by omega, rfl, rfl, rfl, rfl, wrap_small (by omega) (by omega), rfl, rfl, rfl, rfl⟩⟩, fun _ => u1⟩)
end Cg
