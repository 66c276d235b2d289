/-
  The codes' contracts: models: sizes, copies, equality. No condition.
-/
import Derived.Test.YtjhiaobcbbnhnaaGreatModelVc
import Derived.Test.YtjhiaobcbbnhnaaGreatTsortOk
set_option linter.unusedVariables false
set_option linter.unusedSimpArgs false
set_option maxRecDepth 100000
set_option maxHeartbeats 1000000
namespace Cg
open Go Go.Proofs Pl
theorem SmM.mem {m : Mdl} (h : SmM m) {x : Rw} (hx : x ∈ m) : x.1.size ≤ 1048576 ∧ x.2.1.length ≤ 1048576 := by
  have h1 : m.length + sumN costR m ≤ 1048576 := h
  have h2 := sumN_mem costR hx
  have h3 : costR x = x.1.size + x.2.1.length := rfl
  omega
theorem SmM.len {m : Mdl} (h : SmM m) : m.length ≤ 1048576 := by
  have h1 : m.length + sumN costR m ≤ 1048576 := h
  omega

theorem k_szRatS : SoundC Tryz.prog K_szRatS.1 K_szRatS.2 := sound_of hm CtxOK.nil (fun _ => []) (by kernel_rfl) fun (x : List Rt × Int) hl => (by
  rw [← vc_szRatS x]
  obtain ⟨h1, h3, h4⟩ : Ml x.1 ∧ Fu x.2 := hl
  obtain ⟨l, k⟩ := x
  dsimp only at *
  rw [wrap_small (x := k - (l.length : Int)) (by omega) (by omega)]
  simp [-List.getD_eq_getElem?_getD, -List.mem_cons, -Bool.forall_bool, -Bool.exists_bool, and_assoc, peta, tl_inj, ex_1, ex_2, ex_3, ex_4, ex_5, ex_6, ex_7, ex_8, ex_9, ey_2, ey_3, ey_4, ey_5, ey_6, ey_7, ey_8, ey_9]
  exact ⟨fun h => (lim_of_neg h).symm, fun h => (lim_of_nonneg (by omega)).symm⟩)

theorem k_szRow : SoundC Tryz.prog K_szRow.1 K_szRow.2 := sound_of hm (CtxOK.nil.and k_szRatS) (fun _ => []) (by kernel_rfl) fun (x : Rw × Int) hl => (by
  rw [← vc_szRow x]
  obtain ⟨⟨h1, h2⟩, h3, h4⟩ : MlR x.1 ∧ Fu x.2 := hl
  obtain ⟨⟨nm, args, a, b⟩, k⟩ := x
  dsimp only at *
  rw [wrap_small (x := k - (nm.size : Int)) (by omega) (by omega)]
  simp [-List.getD_eq_getElem?_getD, -List.mem_cons, -Bool.forall_bool, -Bool.exists_bool, and_assoc, peta, tl_inj, ex_1, ex_2, ex_3, ex_4, ex_5, ex_6, ex_7, ex_8, ex_9, ey_2, ey_3, ey_4, ey_5, ey_6, ey_7, ey_8, ey_9]
  have e : k - (costR (nm, args, a, b) : Int) = k - nm.size - args.length := by simp [costR]; omega
  rw [e]
  exact ⟨fun h => (lim_of_neg (by omega)).symm, fun h => ⟨h2, h, by omega, fun h5 => (lim_neg h5).2.symm, fun _ => rfl⟩⟩)

theorem k_szRowS : SoundC Tryz.prog K_szRowS.1 K_szRowS.2 := sound_of hm (CtxOK.nil.and k_szRow) (fun x => A_szRowS x.1 x.2) (by kernel_rfl) fun (x : Mdl × Int) hl => (by
  rw [← vc_szRowS x]
  obtain ⟨⟨h1, h2⟩, h3, h4⟩ : MlM x.1 ∧ Fu x.2 := hl
  obtain ⟨s, k⟩ := x
  dsimp only at *
  rw [wrap_small (x := k - (List.length s : Int)) (by omega) (by omega)]
  simp [-List.getD_eq_getElem?_getD, -List.mem_cons, -Bool.forall_bool, -Bool.exists_bool, and_assoc, peta, tl_inj, ex_1, ex_2, ex_3, ex_4, ex_5, ex_6, ex_7, ex_8, ex_9, ey_2, ey_3, ey_4, ey_5, ey_6, ey_7, ey_8, ey_9]
  have hc : (costM s : Int) = s.length + sumN costR s := by simp [costM]
  refine ⟨fun h => (lim_of_neg (by omega)).symm, fun h => ⟨⟨0, by simp, by simp [sumN]; omega, by simp [sumN], rfl⟩, fun i hi hk => ⟨fun hlt => ?_, fun hge => ?_⟩⟩⟩
  · have hx := h2 _ (getD_mem dR hlt)
    have ht := sumN_take costR dR hlt
    have hle := sumN_take_le costR s (i + 1)
    refine ⟨hlt, hx.1, hx.2, hk, by omega, fun h5 => ?_, fun h5 => ?_⟩
    · exact (lim_of_neg (by have := (lim_neg h5).1; omega)).symm
    · obtain ⟨h6, h7⟩ := lim_nonneg h5
      exact ⟨i + 1, hlt, by omega, by omega, by rw [h7, ht]; omega, wrap_small (by omega) (by omega)⟩
  · rw [List.take_of_length_le hge, hc]
    exact (lim_of_nonneg (by rw [List.take_of_length_le hge] at hk; omega)).symm.trans (by congr 1; omega))

theorem k_szModel : SoundC Tryz.prog K_szModel.1 K_szModel.2 := sound_of hm (CtxOK.nil.and k_szRowS) (fun _ => []) (by kernel_rfl) fun (x : Mdl × Int) hl => (by
  rw [← vc_szModel x]
  obtain ⟨⟨h1, h2⟩, h3, h4⟩ : MlM x.1 ∧ Fu x.2 := hl
  obtain ⟨s, k⟩ := x
  dsimp only at *
  simp [-List.getD_eq_getElem?_getD, -List.mem_cons, -Bool.forall_bool, -Bool.exists_bool, and_assoc, peta, tl_inj, ex_1, ex_2, ex_3, ex_4, ex_5, ex_6, ex_7, ex_8, ex_9, ey_2, ey_3, ey_4, ey_5, ey_6, ey_7, ey_8, ey_9]
  exact ⟨h1, fun a b c d h => h2 _ h, h3, h4, fun h => (lim_neg h).2.symm⟩)

theorem k_toRat : SoundC Tryz.prog K_toRat.1 K_toRat.2 := sound_of hm CtxOK.nil (fun _ => []) (by kernel_rfl) fun (x : Rt) hl => (by
  rw [← vc_toRat x]
  simp [-List.getD_eq_getElem?_getD, -List.mem_cons, -Bool.forall_bool, -Bool.exists_bool, and_assoc, peta, tl_inj, ex_1, ex_2, ex_3, ex_4, ex_5, ex_6, ex_7, ex_8, ex_9, ey_2, ey_3, ey_4, ey_5, ey_6, ey_7, ey_8, ey_9])

theorem k_toRatS : SoundC Tryz.prog K_toRatS.1 K_toRatS.2 := sound_of hm (CtxOK.nil.and k_toRat) (fun x => A_toRatS x) (by kernel_rfl) fun (x : List Rt) hl => (by
  rw [← vc_toRatS x]
  simp [-List.getD_eq_getElem?_getD, -List.mem_cons, -Bool.forall_bool, -Bool.exists_bool, and_assoc, peta, tl_inj, ex_1, ex_2, ex_3, ex_4, ex_5, ex_6, ex_7, ex_8, ex_9, ey_2, ey_3, ey_4, ey_5, ey_6, ey_7, ey_8, ey_9]
  have hlen : x.length ≤ 1048576 * 4096 := by have : x.length ≤ 4294967296 := hl; omega
  refine ⟨by omega, by omega, ⟨0, by simp, List.replicate x.length dQ, by simp, by simp, by simp, by simp, rats_make⟩, fun k b hk hb ht => ⟨fun hlt => ⟨hlt, by omega, k + 1, hlt, b.set k (x.getD k dQ), by simp [hb], copy_step dQ hlt hb ht, by omega, by simp, wrap_small (by omega) (by omega), rats_set⟩, fun hge => copy_end hge hb ht⟩⟩)

theorem k_toRow : SoundC Tryz.prog K_toRow.1 K_toRow.2 := sound_of hm ((CtxOK.nil.and k_toRat).and k_toRatS) (fun _ => []) (by kernel_rfl) fun (x : Rw) hl => (by
  rw [← vc_toRow x]
  have h1 : x.2.1.length ≤ 4294967296 := hl
  obtain ⟨nm, args, a, b⟩ := x
  dsimp only at *
  simp [-List.getD_eq_getElem?_getD, -List.mem_cons, -Bool.forall_bool, -Bool.exists_bool, and_assoc, peta, tl_inj, ex_1, ex_2, ex_3, ex_4, ex_5, ex_6, ex_7, ex_8, ex_9, ey_2, ey_3, ey_4, ey_5, ey_6, ey_7, ey_8, ey_9]
  exact h1)

theorem k_toRowS : SoundC Tryz.prog K_toRowS.1 K_toRowS.2 := sound_of hm (CtxOK.nil.and k_toRow) (fun x => A_toRowS x) (by kernel_rfl) fun (x : Mdl) hl => (by
  rw [← vc_toRowS x]
  simp [-List.getD_eq_getElem?_getD, -List.mem_cons, -Bool.forall_bool, -Bool.exists_bool, and_assoc, peta, tl_inj, ex_1, ex_2, ex_3, ex_4, ex_5, ex_6, ex_7, ex_8, ex_9, ey_2, ey_3, ey_4, ey_5, ey_6, ey_7, ey_8, ey_9]
  have hlen : x.length ≤ 1048576 * 4096 := by have := SmM.len (m := x) hl; omega
  refine ⟨by omega, by omega, ⟨0, by simp, List.replicate x.length dR, by simp, by simp, by simp, by simp, mrows_make⟩, fun k b hk hb ht => ⟨fun hlt => ⟨hlt, by have := (SmM.mem (m := x) hl (getD_mem dR hlt)).2; omega, by omega, k + 1, hlt, b.set k (x.getD k dR), by simp [hb], copy_step dR hlt hb ht, by omega, by simp, wrap_small (by omega) (by omega), mrows_set⟩, fun hge => copy_end hge hb ht⟩⟩)

theorem k_toModel : SoundC Tryz.prog K_toModel.1 K_toModel.2 := sound_of hm (CtxOK.nil.and k_toRowS) (fun _ => []) (by kernel_rfl) fun (x : Mdl) hl => (by
  rw [← vc_toModel x]
  have h1 : SmM x := hl
  simp [-List.getD_eq_getElem?_getD, -List.mem_cons, -Bool.forall_bool, -Bool.exists_bool, and_assoc, peta, tl_inj, ex_1, ex_2, ex_3, ex_4, ex_5, ex_6, ex_7, ex_8, ex_9, ey_2, ey_3, ey_4, ey_5, ey_6, ey_7, ey_8, ey_9]
  exact h1)

theorem k_eqRat : SoundC Tryz.prog K_eqRat.1 K_eqRat.2 := sound_of hm CtxOK.nil (fun _ => []) (by kernel_rfl) fun (x : Rt × Rt) hl => (by
  rw [← vc_eqRat x]
  obtain ⟨⟨a, b⟩, c, d⟩ := x
  simp [-List.getD_eq_getElem?_getD, -List.mem_cons, -Bool.forall_bool, -Bool.exists_bool, and_assoc, peta, tl_inj, ex_1, ex_2, ex_3, ex_4, ex_5, ex_6, ex_7, ex_8, ex_9, ey_2, ey_3, ey_4, ey_5, ey_6, ey_7, ey_8, ey_9]
  repeat' (first | apply And.intro | intro _)
  all_goals first | contradiction | assumption | omega | (simp_all; done) | grind)

theorem k_eqRatS : SoundC Tryz.prog K_eqRatS.1 K_eqRatS.2 := sound_of hm (CtxOK.nil.and k_eqRat) (fun x => A_eqRatS x.1 x.2) (by kernel_rfl) fun (x : List Rt × List Rt) hl => (by
  rw [← vc_eqRatS x]
  have hlen : x.1.length ≤ 4294967296 := hl
  obtain ⟨l, m⟩ := x
  dsimp only at *
  simp [-List.getD_eq_getElem?_getD, -List.mem_cons, -Bool.forall_bool, -Bool.exists_bool, and_assoc, peta, tl_inj, ex_1, ex_2, ex_3, ex_4, ex_5, ex_6, ex_7, ex_8, ex_9, ey_2, ey_3, ey_4, ey_5, ey_6, ey_7, ey_8, ey_9]
  refine ⟨fun h e => h (by rw [e]), fun h => ⟨⟨0, by simp; omega⟩, fun k hk hlm he => ⟨fun hlt => ⟨hlt, by omega, (eq_step dQ hlt hlm he).1, fun h => ⟨k + 1, hlt, hlm, (eq_step dQ hlt hlm he).2 h, by omega, wrap_small (by omega) (by omega)⟩⟩, fun hge => ?_⟩⟩⟩
  rw [drop_end (by omega), drop_end (l := m) (by omega)] at he
  exact he.2 rfl)

theorem k_eqRow : SoundC Tryz.prog K_eqRow.1 K_eqRow.2 := sound_of hm ((CtxOK.nil.and k_eqRat).and k_eqRatS) (fun _ => []) (by kernel_rfl) fun (x : Rw × Rw) hl => (by
  rw [← vc_eqRow x]
  have h1 : x.1.2.1.length ≤ 4294967296 := hl
  obtain ⟨⟨a, b, c, d⟩, a', b', c', d'⟩ := x
  dsimp only at *
  simp [-List.getD_eq_getElem?_getD, -List.mem_cons, -Bool.forall_bool, -Bool.exists_bool, and_assoc, peta, tl_inj, ex_1, ex_2, ex_3, ex_4, ex_5, ex_6, ex_7, ex_8, ex_9, ey_2, ey_3, ey_4, ey_5, ey_6, ey_7, ey_8, ey_9]
  repeat' (first | apply And.intro | intro _)
  all_goals first | contradiction | assumption | omega | (simp_all; done) | grind)

theorem k_eqRowS : SoundC Tryz.prog K_eqRowS.1 K_eqRowS.2 := sound_of hm (CtxOK.nil.and k_eqRow) (fun x => A_eqRowS x.1 x.2) (by kernel_rfl) fun (x : Mdl × Mdl) hl => (by
  rw [← vc_eqRowS x]
  have hs : SmM x.1 := hl
  have hlen := SmM.len hs
  obtain ⟨l, m⟩ := x
  dsimp only at *
  simp [-List.getD_eq_getElem?_getD, -List.mem_cons, -Bool.forall_bool, -Bool.exists_bool, and_assoc, peta, tl_inj, ex_1, ex_2, ex_3, ex_4, ex_5, ex_6, ex_7, ex_8, ex_9, ey_2, ey_3, ey_4, ey_5, ey_6, ey_7, ey_8, ey_9]
  refine ⟨fun h e => h (by rw [e]), fun h => ⟨⟨0, by simp; omega⟩, fun k hk hlm he => ⟨fun hlt => ⟨hlt, by omega, by have := (hs.mem (getD_mem dR hlt)).2; omega, (eq_step dR hlt hlm he).1, fun h => ⟨k + 1, hlt, hlm, (eq_step dR hlt hlm he).2 h, by omega, wrap_small (by omega) (by omega)⟩⟩, fun hge => ?_⟩⟩⟩
  rw [drop_end (by omega), drop_end (l := m) (by omega)] at he
  exact he.2 rfl)

theorem k_eqModel : SoundC Tryz.prog K_eqModel.1 K_eqModel.2 := sound_of hm (CtxOK.nil.and k_eqRowS) (fun _ => []) (by kernel_rfl) fun (x : Mdl × Mdl) hl => (by
  rw [← vc_eqModel x]
  have h1 : SmM x.1 := hl
  obtain ⟨l, m⟩ := x
  dsimp only at *
  simp [-List.getD_eq_getElem?_getD, -List.mem_cons, -Bool.forall_bool, -Bool.exists_bool, and_assoc, peta, tl_inj, ex_1, ex_2, ex_3, ex_4, ex_5, ex_6, ex_7, ex_8, ex_9, ey_2, ey_3, ey_4, ey_5, ey_6, ey_7, ey_8, ey_9]
  exact h1)

theorem k_l7Rats : SoundC Tryz.prog K_l7Rats.1 K_l7Rats.2 := sound_of hm CtxOK.nil (fun x => A_l7Rats x.1 x.2) (by kernel_rfl) fun (x : List Rt × List Rt) hl => (by
  rw [← vc_l7Rats x]
  have hlen : x.1.length ≤ 4294967296 := hl
  obtain ⟨l, m⟩ := x
  dsimp only at *
  simp [-List.getD_eq_getElem?_getD, -List.mem_cons, -Bool.forall_bool, -Bool.exists_bool, and_assoc, peta, tl_inj, ex_1, ex_2, ex_3, ex_4, ex_5, ex_6, ex_7, ex_8, ex_9, ey_2, ey_3, ey_4, ey_5, ey_6, ey_7, ey_8, ey_9]
  refine ⟨fun h e => h (by rw [e]), fun h => ⟨⟨0, by simp; omega⟩, fun k hk hlm he => ⟨fun hlt => ⟨hlt, by omega, fun h => (eq_step dQ hlt hlm he).1 (fun e => by rw [e] at h; simp at h), fun h1 h2 => ⟨k + 1, hlt, hlm, (eq_step dQ hlt hlm he).2 (Prod.ext h1 h2), by omega, wrap_small (by omega) (by omega)⟩⟩, fun hge => ?_⟩⟩⟩
  rw [drop_end (by omega), drop_end (l := m) (by omega)] at he
  exact he.2 rfl)

end Cg
