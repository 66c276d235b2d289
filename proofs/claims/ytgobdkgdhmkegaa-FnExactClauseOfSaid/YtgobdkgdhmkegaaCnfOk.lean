/-
  The codes' contracts: clause sets. No condition.
-/
import Derived.Test.YtgobdkgdhmkegaaCnfVc
import Derived.Test.YtgobdkgdhmkegaaRowsOk
set_option linter.unusedVariables false
set_option linter.unusedSimpArgs false
set_option maxRecDepth 100000
namespace Cg
open Go Go.Proofs

theorem all_step {α : Type} (d : α) (p : α → Bool) {F : Bool} {l : List α} {k : Nat} (hk : k < l.length) (he : F = (l.drop k).all p) :
    (p (l.getD k d) = false → F = false) ∧ (p (l.getD k d) = true → F = (l.drop (k + 1)).all p) := by
  rw [drop_get d hk] at he
  exact ⟨fun h => by rw [he, List.all_cons, h]; rfl, fun h => by rw [he, List.all_cons, h]; rfl⟩
theorem all_end {α : Type} {p : α → Bool} {F : Bool} {l : List α} {k : Nat} (hk : l.length ≤ k) (he : F = (l.drop k).all p) : F = true := by
  rw [he, drop_end (by omega)]; rfl

theorem szL_neg : ∀ (l : List (List Int)) (k : Int), 0 ≤ k → True → Pl.szL l k < 0 → -1 = Pl.szL l k
  | [], k, h, _, h' => by simp only [Pl.szL] at h'; omega
  | x :: xs, k, h, _, h' => by
    simp only [Pl.szL] at h' ⊢
    split at h'
    · rename_i h2; rw [if_pos h2]
    · rename_i h2; rw [if_neg h2]; exact szL_neg xs _ (by omega) trivial h'

theorem k_szCnf : SoundC Try.prog K_szCnf.1 K_szCnf.2 := sound_of hm (CtxOK.nil.and k_szIntSS) (fun _ => []) (by kernel_rfl) fun (c, k) hl => cast (vc_szCnf c k) (by
  obtain ⟨h1, h2⟩ : MlL c.2 ∧ Fu k := hl
  simp [and_assoc]
  refine ⟨h1.1, h1.2, h2.1, h2.2, fun h => ?_⟩
  unfold Pl.szSS at h ⊢
  split at h
  · rename_i h'; rw [if_pos h']
  · rename_i h'; rw [if_neg h']; exact szL_neg _ _ (by omega) trivial h)

theorem k_toCnf : SoundC Try.prog K_toCnf.1 K_toCnf.2 := sound_of hm (CtxOK.nil.and k_toIntSS) (fun _ => []) (by kernel_rfl) fun (c : Pl.Cnf) (hl : SzL c.2) => cast (vc_toCnf c) (by
  simp [and_assoc]
  exact hl)

theorem k_eqCnf : SoundC Try.prog K_eqCnf.1 K_eqCnf.2 := sound_of hm (CtxOK.nil.and k_eqIntSS) (fun _ => []) (by kernel_rfl) fun (c, d) hl => cast (vc_eqCnf c d) (by
  replace hl : SzL c.2 := hl
  obtain ⟨c1, c2⟩ := c
  obtain ⟨d1, d2⟩ := d
  simp [and_assoc]
  exact ⟨fun h h' => absurd h' h, fun h => ⟨hl.1, hl.2, fun h' _ => h', fun h' => ⟨h, h'⟩⟩⟩)

theorem k_sCnfOk : SoundC Try.prog K_sCnfOk.1 K_sCnfOk.2 := sound_of hm (CtxOK.nil.and k_sClauseOk) A_sCnfOk (by kernel_rfl) fun (c : Pl.Cnf) (hl : SzL c.2) => cast (vc_sCnfOk c) (by
  obtain ⟨hl, h2⟩ := hl
  obtain ⟨c1, c2⟩ := c
  simp [-List.getD_eq_getElem?_getD, and_assoc]
  have he0 : 0 ≤ c1 → c1 ≤ 60 → (c2.length : Int) ≤ 400 → Pl.cnfOk (c1, c2) = c2.all fun y => Pl.specClause y c1 := fun h h' h'' => by
    simp [Pl.cnfOk, h, h', show c2.length ≤ 400 by omega]
  refine ⟨fun h => by simp [Pl.cnfOk, show ¬ 0 ≤ c1 by omega], fun h => ⟨fun h1 => by simp [Pl.cnfOk, show ¬ c1 ≤ 60 by omega], fun h1 => ⟨fun h3 => by simp [Pl.cnfOk, show ¬ c2.length ≤ 400 by omega], fun h3 => ⟨⟨0, by simp, by simpa using he0 h h1 h3, rfl⟩, fun k hk he => ⟨fun hlt => ⟨hlt, h2 _ (getD_mem [] hlt), (all_step [] _ hlt he).1, fun h4 => ⟨k + 1, hlt, (all_step [] _ hlt he).2 h4, by omega, wrap_succ hlt hl⟩⟩, fun hge => all_end hge he⟩⟩⟩⟩⟩)

theorem k_CnfOk1 : SoundC Try.prog K_CnfOk1.1 K_CnfOk1.2 := sound_of hm (CtxOK.nil.and k_iClauseOk) (fun _ => []) (by kernel_rfl) fun (l, c) hl => cast (vc_CnfOk1 l c) (by
  replace hl : Sz l := hl
  simp [and_assoc, hl, Pl.clause_same])

theorem k_IndexCnfOk : SoundC Try.prog K_IndexCnfOk.1 K_IndexCnfOk.2 := sound_of hm (CtxOK.nil.and k_CnfOk1) (fun (l, c) => A_IndexCnfOk l c) (by kernel_rfl) fun (l, c) hl => cast (vc_IndexCnfOk l c) (by
  obtain ⟨hl, h2⟩ : SzL l := hl
  obtain ⟨c1, c2⟩ := c
  simp [-List.getD_eq_getElem?_getD, and_assoc]
  exact ⟨⟨0, by simp, idx_init _ _, rfl⟩, fun k hk he => ⟨fun hlt => ⟨hlt, h2 _ (getD_mem [] hlt), fun h => (idx_step [] _ hlt he).1 (by simp [h, -List.getD_eq_getElem?_getD]), fun h => ⟨k + 1, hlt, (idx_step [] _ hlt he).2 (by simp [h, -List.getD_eq_getElem?_getD]), by omega, wrap_succ hlt hl⟩⟩, fun hge => idx_end _ hge he⟩⟩)

theorem k_ContainsCnfOk : SoundC Try.prog K_ContainsCnfOk.1 K_ContainsCnfOk.2 := sound_of hm (CtxOK.nil.and k_IndexCnfOk) (fun _ => []) (by kernel_rfl) fun (l, c) hl => cast (vc_ContainsCnfOk l c) (by
  replace hl : SzL l := hl
  obtain ⟨c1, c2⟩ := c
  simp only [idx_any]
  simp [and_assoc]
  exact hl)

theorem k_iCnfOk : SoundC Try.prog K_iCnfOk.1 K_iCnfOk.2 := sound_of hm ((CtxOK.nil.and k_ContainsCnfOk).and k_within) (fun _ => []) (by kernel_rfl) fun (c : Pl.Cnf) (hl : SzL c.2) => cast (vc_iCnfOk c) (by
  obtain ⟨c1, c2⟩ := c
  simp [and_assoc]
  have e : Pl.withinI c1 0 60 = (decide (0 ≤ c1) && decide (c1 ≤ 60)) := rfl
  refine ⟨fun h => by rw [e] at h; simp [Pl.cnfOk, h], fun h => ⟨fun h1 => by simp [Pl.cnfOk, show ¬ c2.length ≤ 400 by omega], fun h1 => ⟨hl.1, hl.2, ?_⟩⟩⟩
  rw [e] at h
  simp [Pl.cnfOk, h, show c2.length ≤ 400 by omega, List.any_eq_not_all_not])

theorem k_CnfIs1 : SoundC Try.prog K_CnfIs1.1 K_CnfIs1.2 := sound_of hm (CtxOK.nil.and k_iClauseIs) (fun _ => []) (by kernel_rfl) fun (l, v) hl => cast (vc_CnfIs1 l v) (by
  obtain ⟨hl, hv⟩ : Sz l ∧ Sz v := hl
  simp [and_assoc, hl, hv])

theorem k_IndexCnfIs : SoundC Try.prog K_IndexCnfIs.1 K_IndexCnfIs.2 := sound_of hm (CtxOK.nil.and k_CnfIs1) (fun (l, v) => A_IndexCnfIs l v) (by kernel_rfl) fun (l, v) hl => cast (vc_IndexCnfIs l v) (by
  obtain ⟨⟨hl, h2⟩, hv⟩ : SzL l ∧ Sz v := hl
  simp [-List.getD_eq_getElem?_getD, and_assoc]
  exact ⟨⟨0, by simp, idx_init _ _, rfl⟩, fun k hk he => ⟨fun hlt => ⟨hlt, h2 _ (getD_mem [] hlt), hv, fun h => (idx_step [] _ hlt he).1 (by simp [h, -List.getD_eq_getElem?_getD]), fun h => ⟨k + 1, hlt, (idx_step [] _ hlt he).2 (by simp [h, -List.getD_eq_getElem?_getD]), by omega, wrap_succ hlt hl⟩⟩, fun hge => idx_end _ hge he⟩⟩)

theorem k_ContainsCnfIs : SoundC Try.prog K_ContainsCnfIs.1 K_ContainsCnfIs.2 := sound_of hm (CtxOK.nil.and k_IndexCnfIs) (fun _ => []) (by kernel_rfl) fun (l, v) hl => cast (vc_ContainsCnfIs l v) (by
  obtain ⟨hl, hv⟩ : SzL l ∧ Sz v := hl
  simp only [idx_any]
  simp [and_assoc]
  exact ⟨hl.1, hl.2, hv⟩)

theorem k_iCnfIs : SoundC Try.prog K_iCnfIs.1 K_iCnfIs.2 := sound_of hm ((CtxOK.nil.and k_ContainsCnfIs).and k_iCnfOk) (fun _ => []) (by kernel_rfl) fun (c, v) hl => cast (vc_iCnfIs c v) (by
  obtain ⟨hl, hv⟩ : SzL c.2 ∧ Sz v := hl
  obtain ⟨c1, c2⟩ := c
  simp [and_assoc]
  refine ⟨hl.1, hl.2, fun h => ⟨fun h1 => ⟨hl.1, hl.2, hv, ?_⟩, fun h1 => by simp [Pl.cnfIs, h1]⟩, fun h => by simp [Pl.cnfIs, h]⟩
  simp [Pl.cnfIs, h, h1, List.any_eq_not_all_not])

theorem szL_le : ∀ (l : List (List Int)) (k : Int), k ≤ 1048576 → 0 ≤ Pl.szL l k → ∀ x ∈ l, x.length ≤ 1048576
  | [], _, _, _, x, h => by cases h
  | y :: l, k, hk, h, x, hx => by
    simp only [Pl.szL] at h
    split at h
    · omega
    · rename_i hn
      cases List.mem_cons.1 hx with
      | inl e => subst e; omega
      | inr e => exact szL_le l (k - y.length) (by omega) h x e
theorem szSS_le {l : List (List Int)} {k : Int} (hk : k ≤ 1048576) (h : 0 ≤ Pl.szSS l k) : SzL l := by
  unfold Pl.szSS at h
  split at h
  · exact absurd h (by decide)
  · have := szL_le l (k - l.length) (by omega) (by omega)
    exact ⟨by omega, fun x hx => by have := this x hx; omega⟩
theorem szL_dec : ∀ (l : List (List Int)) (k : Int), 0 ≤ k → Pl.szL l k ≤ k
  | [], k, _ => Int.le_refl _
  | x :: xs, k, h => by
    simp only [Pl.szL]
    split
    · omega
    · have := szL_dec xs (k - x.length) (by omega); omega
theorem szSS_fu {l : List (List Int)} {k : Int} (hk : Fu k) (h : 0 ≤ Pl.szSS l k) : Fu (Pl.szSS l k) := by
  refine ⟨h, ?_⟩
  unfold Pl.szSS at h ⊢
  split at h
  · omega
  · rename_i h'; rw [if_neg h']; have := szL_dec l (k - l.length) (by omega); omega

end Cg
