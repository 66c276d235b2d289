/-
  The codes' contracts: lists of literals: sizes, copies, equality. No condition.
-/
import Derived.Test.YtjhiaobcbbnhnaaGreatLitVc
import Derived.Test.YtjhiaobcbbnhnaaGreatSameOk
set_option linter.unusedVariables false
set_option linter.unusedSimpArgs false
set_option maxRecDepth 100000
set_option maxHeartbeats 1000000
namespace Cg
open Go Go.Proofs Pl
theorem SmLs.mem {l : List Ltr} (h : SmLs l) {x : Ltr} (hx : x ∈ l) : SmA x.1 := by
  have h1 : l.length + sumN costL l ≤ 1048576 := h
  have h2 := sumN_mem costL hx
  have h3 : costL x = costA x.1 := rfl
  show costA x.1 ≤ 1048576
  omega
theorem SmLs.len {l : List Ltr} (h : SmLs l) : l.length ≤ 1048576 := by
  have h1 : l.length + sumN costL l ≤ 1048576 := h
  omega
theorem k_szLitS : SoundC Tryz.prog K_szLitS.1 K_szLitS.2 := sound_of hm (CtxOK.nil.and k_szLit) (fun x => A_szLitS x.1 x.2) (by kernel_rfl) fun (x : List Ltr × Int) hl => (by
  rw [← vc_szLitS x]
  obtain ⟨⟨h1, h2⟩, h3, h4⟩ : MlLs x.1 ∧ Fu x.2 := hl
  obtain ⟨s, k⟩ := x
  dsimp only at *
  rw [wrap_small (x := k - (List.length s : Int)) (by omega) (by omega)]
  simp [-List.getD_eq_getElem?_getD, -List.mem_cons, -Bool.forall_bool, -Bool.exists_bool, and_assoc, peta, tl_inj, ex_1, ex_2, ex_3, ex_4, ex_5, ex_6, ex_7, ex_8, ex_9, ey_2, ey_3, ey_4, ey_5, ey_6, ey_7, ey_8, ey_9]
  have hc : (costLs s : Int) = s.length + sumN costL s := by simp [costLs]
  refine ⟨fun h => (lim_of_neg (by omega)).symm, fun h => ⟨⟨0, by simp, by simp [sumN]; omega, by simp [sumN], rfl⟩, fun i hi hk => ⟨fun hlt => ?_, fun hge => ?_⟩⟩⟩
  · obtain ⟨u1, u2, u3, u4⟩ := h2 _ (getD_mem dL hlt)
    have ht := sumN_take costL dL hlt
    have hle := sumN_take_le costL s (i + 1)
    refine ⟨hlt, u1, u2, u3.1, u3.2, u4, hk, by omega, fun h5 => ?_, fun h5 => ?_⟩
    · exact (lim_of_neg (by have := (lim_neg h5).1; omega)).symm
    · obtain ⟨h6, h7⟩ := lim_nonneg h5
      exact ⟨i + 1, hlt, by omega, by omega, by rw [h7, ht]; omega, wrap_small (by omega) (by omega)⟩
  · rw [List.take_of_length_le hge, hc]
    exact (lim_of_nonneg (by rw [List.take_of_length_le hge] at hk; omega)).symm.trans (by congr 1; omega))
theorem k_toLitS : SoundC Tryz.prog K_toLitS.1 K_toLitS.2 := sound_of hm (CtxOK.nil.and k_toLit) (fun x => A_toLitS x) (by kernel_rfl) fun (x : List Ltr) hl => (by
  rw [← vc_toLitS x]
  have hs : SmLs x := hl
  simp [-List.getD_eq_getElem?_getD, -List.mem_cons, -Bool.forall_bool, -Bool.exists_bool, and_assoc, peta, tl_inj, ex_1, ex_2, ex_3, ex_4, ex_5, ex_6, ex_7, ex_8, ex_9, ey_2, ey_3, ey_4, ey_5, ey_6, ey_7, ey_8, ey_9]
  have hlen : x.length ≤ 1048576 := hs.len
  refine ⟨by omega, by omega, ⟨0, by simp, List.replicate x.length dL, by simp, by simp, by simp, by simp, litrs_make⟩, fun k b hk hb ht => ⟨fun hlt => ⟨hlt, hs.mem (getD_mem dL hlt), by omega, k + 1, hlt, b.set k (x.getD k dL), by simp [hb], copy_step dL hlt hb ht, by omega, by simp, wrap_small (by omega) (by omega), litrs_set⟩, fun hge => copy_end hge hb ht⟩⟩)
theorem k_eqLitS : SoundC Tryz.prog K_eqLitS.1 K_eqLitS.2 := sound_of hm (CtxOK.nil.and k_eqLit) (fun x => A_eqLitS x.1 x.2) (by kernel_rfl) fun (x : List Ltr × List Ltr) hl => (by
  rw [← vc_eqLitS x]
  have hs : SmLs x.1 := hl
  have hlen := hs.len
  obtain ⟨l, m⟩ := x
  dsimp only at *
  simp [-List.getD_eq_getElem?_getD, -List.mem_cons, -Bool.forall_bool, -Bool.exists_bool, and_assoc, peta, tl_inj, ex_1, ex_2, ex_3, ex_4, ex_5, ex_6, ex_7, ex_8, ex_9, ey_2, ey_3, ey_4, ey_5, ey_6, ey_7, ey_8, ey_9]
  refine ⟨fun h e => h (by rw [e]), fun h => ⟨⟨0, by simp; omega⟩, fun k hk hlm he => ⟨fun hlt => ⟨hlt, by omega, hs.mem (getD_mem dL hlt), (eq_step dL hlt hlm he).1, fun h => ⟨k + 1, hlt, hlm, (eq_step dL hlt hlm he).2 h, by omega, wrap_small (by omega) (by omega)⟩⟩, fun hge => ?_⟩⟩⟩
  rw [drop_end (by omega), drop_end (l := m) (by omega)] at he
  exact he.2 rfl)
end Cg
