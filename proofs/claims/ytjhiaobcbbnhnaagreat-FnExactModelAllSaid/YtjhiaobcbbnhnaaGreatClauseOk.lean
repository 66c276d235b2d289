/-
  The codes' contracts: clauses. No condition.
-/
import Derived.Test.YtjhiaobcbbnhnaaGreatClauseVc
set_option linter.unusedVariables false
set_option linter.unusedSimpArgs false
set_option maxRecDepth 100000
namespace Cg
open Go Go.Proofs

theorem hm : Tryz.prog.follows .mixedOrders = true := by kernel_rfl

theorem k_within : SoundC Tryz.prog K_within.1 K_within.2 := sound_of hm CtxOK.nil (fun _ => []) (by kernel_rfl) fun ((x, y, z) : Int × Int × Int) _ => cast (vc_within x y z) (by
  simp [Pl.withinI]
  omega)

theorem prev_zero (l : List Int) : Pl.prev l 0 = none := rfl
theorem prev_pos (l : List Int) {k : Nat} (h : 0 < k) : Pl.prev l k = some (l.getD (k - 1) 0) := by
  unfold Pl.prev
  rw [if_neg (by omega)]

theorem copy_step {α : Type} (d : α) {l b : List α} {k : Nat} (hk : k < l.length) (hb : b.length = l.length) (ht : b.take k = l.take k) : (b.set k (l.getD k d)).take (k + 1) = l.take (k + 1) := by
  refine List.ext_getElem? fun i => ?_
  have hi := congrArg (fun x => x[i]?) ht
  simp only [List.getElem?_take] at hi ⊢
  by_cases h : i < k
  · rw [if_pos (by omega), if_pos (by omega), List.getElem?_set_ne (by omega)]
    rw [if_pos h, if_pos h] at hi
    exact hi
  · by_cases h' : i = k
    · subst h'
      rw [if_pos (by omega), if_pos (by omega), List.getElem?_set_self (by omega)]
      simp [hk]
    · rw [if_neg (by omega), if_neg (by omega)]
theorem copy_end {α : Type} {l b : List α} {k : Nat} (hk : l.length ≤ k) (hb : b.length = l.length) (ht : b.take k = l.take k) : b = l := by
  rwa [List.take_of_length_le (by omega), List.take_of_length_le (by omega)] at ht

theorem k_toIntS : SoundC Tryz.prog K_toIntS.1 K_toIntS.2 := sound_of hm CtxOK.nil A_toIntS (by kernel_rfl) fun (l : List Int) (hl : Sz l) => cast (vc_toIntS l) (by
  simp [-List.getD_eq_getElem?_getD, and_assoc]
  refine ⟨by omega, by omega, ⟨0, by simp, List.replicate l.length 0, by simp, by simp, by simp, by simp, ints_make⟩, fun k b hk hb ht => ⟨fun hlt => ⟨hlt, by omega, k + 1, hlt, b.set k (l.getD k 0), by simp [hb], copy_step 0 hlt hb ht, by omega, by simp, wrap_succ hlt hl, ints_set⟩, fun hge => copy_end hge hb ht⟩⟩)

theorem eq_step {α : Type} [DecidableEq α] (d : α) {l m : List α} {k : Nat} (hk : k < l.length) (hm : l.length = m.length) (he : l = m ↔ l.drop k = m.drop k) :
    (¬ l.getD k d = m.getD k d → ¬ l = m) ∧ (l.getD k d = m.getD k d → (l = m ↔ l.drop (k + 1) = m.drop (k + 1))) := by
  rw [drop_get d hk, drop_get (l := m) d (by omega)] at he
  exact ⟨fun h e => h (by have := he.1 e; injection this), fun h => by rw [he, h]; simp⟩

theorem k_eqIntS : SoundC Tryz.prog K_eqIntS.1 K_eqIntS.2 := sound_of hm CtxOK.nil (fun (l, m) => A_eqIntS l m) (by kernel_rfl) fun (l, m) hl => cast (vc_eqIntS l m) (by
  replace hl : Sz l := hl
  simp [-List.getD_eq_getElem?_getD, and_assoc]
  refine ⟨fun h e => h (by rw [e]), fun h => ⟨⟨0, by simp; omega⟩, fun k hk hlm he => ⟨fun hlt => ⟨hlt, by omega, (eq_step 0 hlt hlm he).1, fun h => ⟨k + 1, hlt, hlm, (eq_step 0 hlt hlm he).2 h, by omega, wrap_succ hlt hl⟩⟩, fun hge => ?_⟩⟩⟩
  rw [drop_end (by omega), drop_end (l := m) (by omega)] at he
  exact he.2 rfl)
end Cg
