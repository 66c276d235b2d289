/-
  The codes' contracts: rows of rows, values of marks. No condition.
-/
import Derived.Test.YtgobdkgdhmkegaaRowsVc
import Derived.Test.YtgobdkgdhmkegaaClauseLaw
set_option linter.unusedVariables false
set_option linter.unusedSimpArgs false
set_option maxRecDepth 100000
namespace Cg
open Go Go.Proofs

theorem k_szIntS : SoundC Try.prog K_szIntS.1 K_szIntS.2 := sound_of hm CtxOK.nil (fun _ => []) (by kernel_rfl) fun (l, k) hl => cast (vc_szIntS l k) (by
  obtain ⟨h1, h2, h3⟩ : Ml l ∧ Fu k := hl
  rw [wrap_small (by omega) (by omega)]
  simp only [condP_dec, Pl.sz1]
  exact ⟨fun h => by rw [if_pos h], fun h => by rw [if_neg h]⟩)

theorem k_szIntSS : SoundC Try.prog K_szIntSS.1 K_szIntSS.2 := sound_of hm (CtxOK.nil.and k_szIntS) (fun (l, k) => A_szIntSS l k) (by kernel_rfl) fun (l, k) hl => cast (vc_szIntSS l k) (by
  obtain ⟨⟨h1, h2⟩, h3, h4⟩ : MlL l ∧ Fu k := hl
  rw [wrap_small (by omega) (by omega)]
  simp [-List.getD_eq_getElem?_getD, and_assoc]
  refine ⟨fun h => by rw [Pl.szSS, if_pos h], fun h => ⟨⟨0, by simp, _, by omega, by omega, by rw [Pl.szSS, if_neg (by omega)]; rfl, rfl, rfl⟩, fun i b hi h5 h6 he => ⟨fun hlt => ?_, fun hge => ?_⟩⟩⟩
  · rw [drop_get [] hlt] at he
    have hx := h2 (l.getD i []) (by simp [hlt])
    simp only [Pl.szL] at he
    refine ⟨hlt, hx, h5, h6, fun hn => ?_, fun hn => ⟨i + 1, hlt, _, ?_, ?_, ?_, by omega, rfl, by rw [wrap_small (by omega) (by omega)]; simp⟩⟩
    · rw [he]
      unfold Pl.sz1 at hn
      split at hn
      · rename_i h; rw [if_pos h]
      · omega
    · exact hn
    · simp only [Pl.sz1]; split <;> omega
    · rw [he]
      unfold Pl.sz1 at hn ⊢
      split at hn
      · omega
      · rename_i h; rw [if_neg h, if_neg h]
  · rw [he, drop_end (by omega)]
    rfl)

theorem k_toIntSS : SoundC Try.prog K_toIntSS.1 K_toIntSS.2 := sound_of hm (CtxOK.nil.and k_toIntS) A_toIntSS (by kernel_rfl) fun (l : List (List Int)) (hl : SzL l) => cast (vc_toIntSS l) (by
  obtain ⟨hl, h2⟩ := hl
  simp [-List.getD_eq_getElem?_getD, and_assoc]
  refine ⟨by omega, by omega, ⟨0, by simp, List.replicate l.length [], by simp, by simp, by simp, by simp, intss_make⟩, fun k b hk hb ht => ⟨fun hlt => ⟨hlt, h2 _ (by simp [hlt]), by omega, k + 1, hlt, b.set k (l.getD k []), by simp [hb], copy_step [] hlt hb ht, by omega, by simp, wrap_succ hlt hl, intss_set⟩, fun hge => copy_end hge hb ht⟩⟩)

theorem k_eqIntSS : SoundC Try.prog K_eqIntSS.1 K_eqIntSS.2 := sound_of hm (CtxOK.nil.and k_eqIntS) (fun (l, m) => A_eqIntSS l m) (by kernel_rfl) fun (l, m) hl => cast (vc_eqIntSS l m) (by
  obtain ⟨hl, h2⟩ : SzL l := hl
  simp [-List.getD_eq_getElem?_getD, and_assoc]
  refine ⟨fun h e => h (by rw [e]), fun h => ⟨⟨0, by simp; omega⟩, fun k hk hlm he => ⟨fun hlt => ⟨hlt, by omega, h2 _ (by simp [hlt]), (eq_step [] hlt hlm he).1, fun h => ⟨k + 1, hlt, hlm, (eq_step [] hlt hlm he).2 h, by omega, wrap_succ hlt hl⟩⟩, fun hge => ?_⟩⟩⟩
  rw [drop_end (by omega), drop_end (l := m) (by omega)] at he
  exact he.2 rfl)

theorem logEnds_vc (l : List (List Int)) (hl : Sz l) : (0 < l.length →
      0 ≤ IntKind.i64.wrap (↑l.length - 1) ∧
        IntKind.i64.wrap (↑l.length - 1) < ↑l.length ∧
          (IntKind.i64.wrap (↑l.length - 1)).toNat < l.length ∧
            (((l.getD (IntKind.i64.wrap (↑l.length - 1)).toNat []).length : Int) == 0) =
              (decide (0 < l.length) && decide (l.getD (l.length - 1) [] = []))) ∧
    (l = [] → 0 < l.length → ¬l.getD (l.length - 1) [] = []) := by
  rw [wrap_small (by omega) (by omega)]
  refine ⟨fun hp => ?_, fun h => by simp [h]⟩
  have e : ((l.length : Int) - 1).toNat = l.length - 1 := by omega
  rw [e, decide_eq_true hp]
  refine ⟨by omega, by omega, by omega, ?_⟩
  cases l.getD (l.length - 1) [] <;> simp
  omega

theorem k_sLogEnds : SoundC Try.prog K_sLogEnds.1 K_sLogEnds.2 := sound_of hm CtxOK.nil (fun _ => []) (by kernel_rfl) fun (l : List (List Int)) (hl : Sz l) => cast (vc_sLogEnds l) (by
  simp [-List.getD_eq_getElem?_getD, and_assoc, Pl.logEnds]
  exact logEnds_vc l hl)
theorem k_iLogEnds : SoundC Try.prog K_iLogEnds.1 K_iLogEnds.2 := sound_of hm CtxOK.nil (fun _ => []) (by kernel_rfl) fun (l : List (List Int)) (hl : Sz l) => cast (vc_iLogEnds l) (by
  simp [-List.getD_eq_getElem?_getD, and_assoc, Pl.logEnds]
  exact logEnds_vc l hl)

theorem k_eqBoolS : SoundC Try.prog K_eqBoolS.1 K_eqBoolS.2 := sound_of hm CtxOK.nil (fun (l, m) => A_eqBoolS l m) (by kernel_rfl) fun (l, m) hl => cast (vc_eqBoolS l m) (by
  replace hl : Sz l := hl
  simp [-List.getD_eq_getElem?_getD, and_assoc]
  refine ⟨fun h e => h (by rw [e]), fun h => ⟨⟨0, by simp; omega⟩, fun k hk hlm he => ⟨fun hlt => ⟨hlt, by omega, (eq_step false hlt hlm he).1, fun h => ⟨k + 1, hlt, hlm, (eq_step false hlt hlm he).2 h, by omega, wrap_succ hlt hl⟩⟩, fun hge => ?_⟩⟩⟩
  rw [drop_end (by omega), drop_end (l := m) (by omega)] at he
  exact he.2 rfl)

theorem k_l10Is : SoundC Try.prog K_l10Is.1 K_l10Is.2 := sound_of hm CtxOK.nil (fun _ => []) (by kernel_rfl) fun (x, v) hl => cast (vc_l10Is x v) (by
  replace hl : Sz v := hl
  rw [wrap_small (x := 0 - (v.length : Int)) (by omega) (by omega)]
  simp only [condP_iff, Pl.lIs, beq_iff_eq, beq_eq_false_iff_ne, ne_eq, decide_eq_true_eq, decide_eq_false_iff_not]
  refine ⟨fun h => by rw [if_pos (.inl h)], fun h1 => ⟨fun h => by rw [if_pos (.inr (.inl h))], fun h2 => ⟨fun h => by rw [if_pos (.inr (.inr (by omega)))], fun h3 => ⟨fun h4 => ?_, fun h4 => ?_⟩⟩⟩⟩
  · rw [wrap_small (by omega) (by omega), if_neg (by omega), if_pos h4]
    exact ⟨by omega, by omega, rfl⟩
  · rw [wrap_small (by omega) (by omega), if_neg (by omega), if_neg h4]
    exact ⟨by omega, by omega, rfl⟩)

theorem k_isTrue : SoundC Try.prog K_isTrue.1 K_isTrue.2 := sound_of hm ((CtxOK.nil.and k_within).and k_variable) (fun _ => []) (by kernel_rfl) fun (x, v) hl => cast (vc_isTrue x v) (by
  replace hl : Sz v := hl
  rw [wrap_small (x := 0 - (v.length : Int)) (by omega) (by omega)]
  simp [-List.getD_eq_getElem?_getD, and_assoc]
  simp only [Pl.lIs, Pl.withinI, Bool.and_eq_true, Bool.and_eq_false_iff, decide_eq_true_eq, decide_eq_false_iff_not]
  refine ⟨fun h => by rw [if_pos (.inl h)], fun h1 => ⟨fun h => by rw [if_pos (by omega)], fun h2 => ?_⟩⟩
  have hv : Pl.varI x = if x < 0 then -x else x := by
    unfold Pl.varI
    have : Pl.wneg x = -x := by unfold Pl.wneg; rw [wrap_small (by omega) (by omega)]; omega
    rw [this]
    split <;> split <;> omega
  have hc : ¬ (x = 0 ∨ x > (v.length : Int) ∨ x < -(v.length : Int)) := by omega
  rw [if_neg hc, hv]
  by_cases hx : x < 0
  · rw [if_pos hx, if_pos hx, wrap_small (by omega) (by omega)]
    have e : (-x - 1).toNat = (-1 - x).toNat := by omega
    refine ⟨by omega, by omega, by omega, ?_⟩
    rw [e, decide_eq_false (by omega)]
    cases v.getD (-1 - x).toNat false <;> rfl
  · rw [if_neg hx, if_neg hx, wrap_small (by omega) (by omega)]
    refine ⟨by omega, by omega, by omega, ?_⟩
    rw [decide_eq_true (by omega)]
    cases v.getD (x - 1).toNat false <;> rfl)

theorem k_sClauseIs : SoundC Try.prog K_sClauseIs.1 K_sClauseIs.2 := sound_of hm (CtxOK.nil.and k_l10Is) (fun (l, v) => A_sClauseIs l v) (by kernel_rfl) fun (l, v) hl => cast (vc_sClauseIs l v) (by
  obtain ⟨hl, hv⟩ : Sz l ∧ Sz v := hl
  simp [-List.getD_eq_getElem?_getD, and_assoc]
  refine ⟨⟨0, by simp, by simp, rfl⟩, fun k hk he => ⟨fun hlt => ?_, fun hge => ?_⟩⟩
  · rw [drop_get 0 hlt] at he
    have step : Pl.lIs (l.getD k 0) v = false → ∃ x' : Nat, x' ≤ l.length ∧ Pl.clauseIs l v = Pl.clauseIs (l.drop x') v ∧ l.length - x' < l.length - k ∧ IntKind.i64.wrap ((k : Int) + 1) = x' := fun h =>
      ⟨k + 1, hlt, by rw [he]; simp only [Pl.clauseIs, List.any_cons, h, Bool.false_or], by omega, wrap_succ hlt hl⟩
    refine ⟨hlt, fun h1 => ⟨hlt, hv, fun h2 => ?_, fun h2 => step h2⟩, fun h1 => step ?_⟩
    · rw [he]; simp only [Pl.clauseIs, List.any_cons, h2, Bool.true_or]
    · rw [h1]; simp [Pl.lIs]
  · rw [he, drop_end (by omega)]; rfl)

theorem k_ClauseIs1 : SoundC Try.prog K_ClauseIs1.1 K_ClauseIs1.2 := sound_of hm (CtxOK.nil.and k_isTrue) (fun _ => []) (by kernel_rfl) fun (x, v) hl => cast (vc_ClauseIs1 x v) (by
  replace hl : Sz v := hl
  simp [and_assoc, hl])

theorem idx_lt {α : Type} (p : α → Bool) : ∀ l : List α, -1 ≤ Pl.idx p l
  | [] => by simp [Pl.idx]
  | x :: l => by have := idx_lt p l; simp only [Pl.idx]; split <;> (try split) <;> omega

/-- One round of slices.IndexFunc. -/
theorem idx_step {α : Type} (d : α) (p : α → Bool) {l : List α} {k : Nat} (hk : k < l.length) (he : Pl.idx p l = if Pl.idx p (l.drop k) < 0 then -1 else Pl.idx p (l.drop k) + k) :
    (p (l.getD k d) = true → (k : Int) = Pl.idx p l) ∧ (p (l.getD k d) = false → Pl.idx p l = if Pl.idx p (l.drop (k + 1)) < 0 then -1 else Pl.idx p (l.drop (k + 1)) + ((k + 1 : Nat) : Int)) := by
  rw [drop_get d hk] at he
  have := idx_lt p (l.drop (k + 1))
  refine ⟨fun h => ?_, fun h => ?_⟩
  · rw [he]; simp only [Pl.idx, h, if_true]; simp
  · rw [he]
    simp only [Pl.idx, h, Bool.false_eq_true, if_false]
    split
    · simp
    · split <;> omega
theorem idx_init {α : Type} (p : α → Bool) (l : List α) : Pl.idx p l = if Pl.idx p (l.drop 0) < 0 then -1 else Pl.idx p (l.drop 0) + ((0 : Nat) : Int) := by
  have := idx_lt p l
  simp only [List.drop_zero]
  split <;> omega
theorem idx_end {α : Type} (p : α → Bool) {l : List α} {k : Nat} (hk : l.length ≤ k) (he : Pl.idx p l = if Pl.idx p (l.drop k) < 0 then -1 else Pl.idx p (l.drop k) + k) : -1 = Pl.idx p l := by
  rw [he, drop_end (by omega)]; simp [Pl.idx]

theorem k_IndexClauseIs : SoundC Try.prog K_IndexClauseIs.1 K_IndexClauseIs.2 := sound_of hm (CtxOK.nil.and k_ClauseIs1) (fun (l, v) => A_IndexClauseIs l v) (by kernel_rfl) fun (l, v) hl => cast (vc_IndexClauseIs l v) (by
  obtain ⟨hl, hv⟩ : Sz l ∧ Sz v := hl
  simp [-List.getD_eq_getElem?_getD, and_assoc]
  exact ⟨⟨0, by simp, idx_init _ _, rfl⟩, fun k hk he => ⟨fun hlt => ⟨hlt, hv, (idx_step 0 _ hlt he).1, fun h => ⟨k + 1, hlt, (idx_step 0 _ hlt he).2 h, by omega, wrap_succ hlt hl⟩⟩, fun hge => idx_end _ hge he⟩⟩)

theorem idx_any {α : Type} (p : α → Bool) : ∀ l : List α, decide (Pl.idx p l ≥ 0) = l.any p
  | [] => by simp [Pl.idx]
  | x :: l => by
    have h := idx_any p l
    have := idx_lt p l
    simp only [Pl.idx, List.any_cons]
    by_cases hp : p x = true
    · simp [hp]
    · simp only [hp, Bool.false_eq_true, if_false, Bool.false_or]
      rw [← h]
      by_cases hq : Pl.idx p l < 0
      · rw [if_pos hq, decide_eq_false (by omega), decide_eq_false (by omega)]
      · rw [if_neg hq, decide_eq_true (by omega), decide_eq_true (by omega)]

theorem k_ContainsClauseIs : SoundC Try.prog K_ContainsClauseIs.1 K_ContainsClauseIs.2 := sound_of hm (CtxOK.nil.and k_IndexClauseIs) (fun _ => []) (by kernel_rfl) fun (l, v) hl => cast (vc_ContainsClauseIs l v) (by
  obtain ⟨hl, hv⟩ : Sz l ∧ Sz v := hl
  simp only [idx_any]
  simp [and_assoc, hl, hv, Pl.clauseIs])

theorem k_iClauseIs : SoundC Try.prog K_iClauseIs.1 K_iClauseIs.2 := sound_of hm (CtxOK.nil.and k_ContainsClauseIs) (fun _ => []) (by kernel_rfl) fun (l, v) hl => cast (vc_iClauseIs l v) (by
  obtain ⟨hl, hv⟩ : Sz l ∧ Sz v := hl
  simp [and_assoc, hl, hv])

end Cg
