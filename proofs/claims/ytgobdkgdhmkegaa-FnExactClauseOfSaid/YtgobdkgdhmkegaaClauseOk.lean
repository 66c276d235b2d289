/-
  The codes' contracts: clauses. No condition.
-/
import Derived.Test.YtgobdkgdhmkegaaClauseVc
set_option linter.unusedVariables false
set_option linter.unusedSimpArgs false
set_option maxRecDepth 100000
namespace Cg
open Go Go.Proofs

theorem hm : Try.prog.follows .mixedOrders = true := by kernel_rfl

theorem k_l10Abs : SoundC Try.prog K_l10Abs.1 K_l10Abs.2 := sound_of hm CtxOK.nil (fun _ => []) (by kernel_rfl) fun (x : Int) _ => cast (vc_l10Abs x) (by
  simp only [condP_dec, Pl.absW, Pl.wneg]
  refine ⟨fun h => by rw [if_pos h], fun h => ⟨fun h' => by rw [if_neg h, if_pos h'], fun h' => ⟨fun h'' => by rw [if_neg h, if_neg h', if_pos h''], fun h'' => by rw [if_neg h, if_neg h', if_neg h'']⟩⟩⟩)

theorem k_within : SoundC Try.prog K_within.1 K_within.2 := sound_of hm CtxOK.nil (fun _ => []) (by kernel_rfl) fun ((x, y, z) : Int × Int × Int) _ => cast (vc_within x y z) (by
  simp [Pl.withinI]
  omega)

theorem k_isMark : SoundC Try.prog K_isMark.1 K_isMark.2 := sound_of hm (CtxOK.nil.and k_within) (fun _ => []) (by kernel_rfl) fun ((x, y) : Int × Int) _ => cast (vc_isMark x y) (by
  simp [Pl.isMark, Pl.wneg, and_assoc]
  exact ⟨fun h => by simp [h], fun h h' => absurd h h'⟩)

theorem k_variable : SoundC Try.prog K_variable.1 K_variable.2 := sound_of hm CtxOK.nil (fun _ => []) (by kernel_rfl) fun (x : Int) _ => cast (vc_variable x) rfl

theorem k_sClauseOk : SoundC Try.prog K_sClauseOk.1 K_sClauseOk.2 := sound_of hm (CtxOK.nil.and k_l10Abs) (fun (l, many) => A_sClauseOk l many) (by kernel_rfl) fun (l, many) hl => cast (vc_sClauseOk l many) (by
  replace hl : Sz l := hl
  simp [-List.getD_eq_getElem?_getD, and_assoc]
  refine ⟨⟨0, by simp, by simp [Pl.specClause]⟩, fun k last hk he => ⟨fun hlt => ?_, fun hge => ?_⟩⟩
  · rw [drop_get 0 hlt] at he
    refine ⟨hlt, fun h1 => ?_, fun h1 => ⟨hlt, fun h2 => ?_, fun h2 => ⟨hlt, k + 1, hlt, _, ?_, by omega, rfl, wrap_succ hlt hl⟩⟩⟩
    · rw [he]; simp [Pl.specLoop, h1, -List.getD_eq_getElem?_getD]
    · rw [he]; simp [Pl.specLoop, h2, -List.getD_eq_getElem?_getD]
    · rw [he]; simp [Pl.specLoop, -List.getD_eq_getElem?_getD, Int.not_le.2 h1, Int.not_lt.2 h2]
  · rw [drop_end (by omega)] at he
    rw [he]
    simp [Pl.specLoop]
    omega)

theorem prev_zero (l : List Int) : Pl.prev l 0 = none := rfl
theorem prev_pos (l : List Int) {k : Nat} (h : 0 < k) : Pl.prev l k = some (l.getD (k - 1) 0) := by
  unfold Pl.prev
  rw [if_neg (by omega)]

theorem k_iClauseOk : SoundC Try.prog K_iClauseOk.1 K_iClauseOk.2 := sound_of hm (((CtxOK.nil.and k_within).and k_isMark).and k_variable) (fun (l, many) => A_iClauseOk l many) (by kernel_rfl) fun (l, many) hl => cast (vc_iClauseOk l many) (by
  replace hl : Sz l := hl
  simp [-List.getD_eq_getElem?_getD, and_assoc]
  refine ⟨fun h => by simp [Pl.implClause, h], fun h => ⟨⟨0, by simp, by simp [Pl.implClause, h, prev_zero], rfl⟩, fun k hk he => ⟨fun hlt => ⟨hlt, ?_, ?_⟩, fun hge => ?_⟩⟩⟩
  · intro h1
    rw [he, drop_get 0 hlt]
    by_cases hk0 : k = 0
    · subst hk0; simp [prev_zero, Pl.implLoop, h1, -List.getD_eq_getElem?_getD]
    · simp [prev_pos l (Nat.pos_of_ne_zero hk0), Pl.implLoop, h1, -List.getD_eq_getElem?_getD]
  · intro h1
    rw [drop_get 0 hlt] at he
    refine ⟨fun h0 => ?_, fun h0 => ⟨k + 1, hlt, ?_, by omega, wrap_succ hlt hl⟩⟩
    · rw [wrap_small (by omega) (by omega)]
      have e : ((k : Int) - 1).toNat = k - 1 := by omega
      rw [e]
      rw [prev_pos l h0] at he
      refine ⟨by omega, by omega, by omega, fun h2 => ?_, fun h2 => ⟨k + 1, hlt, ?_, by omega, wrap_succ hlt hl⟩⟩
      · rw [he]; simp [Pl.implLoop, h1, h2, -List.getD_eq_getElem?_getD]
      · rw [he, prev_pos l (Nat.succ_pos k)]
        simp [Pl.implLoop, h1, Int.not_le.2 h2, -List.getD_eq_getElem?_getD]
    · subst h0
      rw [he, prev_pos l (Nat.succ_pos _)]
      simp [Pl.implLoop, h1, prev_zero, -List.getD_eq_getElem?_getD]
  · rw [he, drop_end (by omega)]
    cases Pl.prev l k <;> rfl)

theorem copy_step {α : Type} (d : α) {l b : List α} {k : Nat} (hk : k < l.length) (hb : b.length = l.length) (ht : b.take k = l.take k) : (b.set k (l.getD k d)).take (k + 1) = l.take (k + 1) := by
  refine List.ext_getElem? fun i => ?_
  have hi := congrArg (fun x => x[i]?) ht
  simp only [List.getElem?_take] at hi ⊢
  by_cases h : i < k
  · rw [if_pos (by omega), if_pos (by omega), List.getElem?_set_ne (by omega)]
    rw [if_pos h, if_pos h] at hi
    exact hi
  · by_cases h' : i = k
    · subst h'
      rw [if_pos (by omega), if_pos (by omega), List.getElem?_set_self (by omega)]
      simp [hk]
    · rw [if_neg (by omega), if_neg (by omega)]
theorem copy_end {α : Type} {l b : List α} {k : Nat} (hk : l.length ≤ k) (hb : b.length = l.length) (ht : b.take k = l.take k) : b = l := by
  rwa [List.take_of_length_le (by omega), List.take_of_length_le (by omega)] at ht

theorem k_toIntS : SoundC Try.prog K_toIntS.1 K_toIntS.2 := sound_of hm CtxOK.nil A_toIntS (by kernel_rfl) fun (l : List Int) (hl : Sz l) => cast (vc_toIntS l) (by
  simp [-List.getD_eq_getElem?_getD, and_assoc]
  refine ⟨by omega, by omega, ⟨0, by simp, List.replicate l.length 0, by simp, by simp, by simp, by simp, ints_make⟩, fun k b hk hb ht => ⟨fun hlt => ⟨hlt, by omega, k + 1, hlt, b.set k (l.getD k 0), by simp [hb], copy_step 0 hlt hb ht, by omega, by simp, wrap_succ hlt hl, ints_set⟩, fun hge => copy_end hge hb ht⟩⟩)

theorem eq_step {α : Type} [DecidableEq α] (d : α) {l m : List α} {k : Nat} (hk : k < l.length) (hm : l.length = m.length) (he : l = m ↔ l.drop k = m.drop k) :
    (¬ l.getD k d = m.getD k d → ¬ l = m) ∧ (l.getD k d = m.getD k d → (l = m ↔ l.drop (k + 1) = m.drop (k + 1))) := by
  rw [drop_get d hk, drop_get (l := m) d (by omega)] at he
  exact ⟨fun h e => h (by have := he.1 e; injection this), fun h => by rw [he, h]; simp⟩

theorem k_eqIntS : SoundC Try.prog K_eqIntS.1 K_eqIntS.2 := sound_of hm CtxOK.nil (fun (l, m) => A_eqIntS l m) (by kernel_rfl) fun (l, m) hl => cast (vc_eqIntS l m) (by
  replace hl : Sz l := hl
  simp [-List.getD_eq_getElem?_getD, and_assoc]
  refine ⟨fun h e => h (by rw [e]), fun h => ⟨⟨0, by simp; omega⟩, fun k hk hlm he => ⟨fun hlt => ⟨hlt, by omega, (eq_step 0 hlt hlm he).1, fun h => ⟨k + 1, hlt, hlm, (eq_step 0 hlt hlm he).2 h, by omega, wrap_succ hlt hl⟩⟩, fun hge => ?_⟩⟩⟩
  rw [drop_end (by omega), drop_end (l := m) (by omega)] at he
  exact he.2 rfl)
end Cg
