/-
  The codes' contracts: clause sets. No condition.
-/
import Derived.Test.YtjhiaobcbbnhnaaGreatCnfVc
import Derived.Test.YtjhiaobcbbnhnaaGreatRowsOk
set_option linter.unusedVariables false
set_option linter.unusedSimpArgs false
set_option maxRecDepth 100000
namespace Cg
open Go Go.Proofs

theorem all_step {α : Type} (d : α) (p : α → Bool) {F : Bool} {l : List α} {k : Nat} (hk : k < l.length) (he : F = (l.drop k).all p) :
    (p (l.getD k d) = false → F = false) ∧ (p (l.getD k d) = true → F = (l.drop (k + 1)).all p) := by
  rw [drop_get d hk] at he
  exact ⟨fun h => by rw [he, List.all_cons, h]; rfl, fun h => by rw [he, List.all_cons, h]; rfl⟩
theorem all_end {α : Type} {p : α → Bool} {F : Bool} {l : List α} {k : Nat} (hk : l.length ≤ k) (he : F = (l.drop k).all p) : F = true := by
  rw [he, drop_end (by omega)]; rfl

theorem szL_neg : ∀ (l : List (List Int)) (k : Int), 0 ≤ k → True → Pl.szL l k < 0 → -1 = Pl.szL l k
  | [], k, h, _, h' => by simp only [Pl.szL] at h'; omega
  | x :: xs, k, h, _, h' => by
    simp only [Pl.szL] at h' ⊢
    split at h'
    · rename_i h2; rw [if_pos h2]
    · rename_i h2; rw [if_neg h2]; exact szL_neg xs _ (by omega) trivial h'

theorem szL_le : ∀ (l : List (List Int)) (k : Int), k ≤ 1048576 → 0 ≤ Pl.szL l k → ∀ x ∈ l, x.length ≤ 1048576
  | [], _, _, _, x, h => by cases h
  | y :: l, k, hk, h, x, hx => by
    simp only [Pl.szL] at h
    split at h
    · omega
    · rename_i hn
      cases List.mem_cons.1 hx with
      | inl e => subst e; omega
      | inr e => exact szL_le l (k - y.length) (by omega) h x e
theorem szSS_le {l : List (List Int)} {k : Int} (hk : k ≤ 1048576) (h : 0 ≤ Pl.szSS l k) : SzL l := by
  unfold Pl.szSS at h
  split at h
  · exact absurd h (by decide)
  · have := szL_le l (k - l.length) (by omega) (by omega)
    exact ⟨by omega, fun x hx => by have := this x hx; omega⟩
theorem szL_dec : ∀ (l : List (List Int)) (k : Int), 0 ≤ k → Pl.szL l k ≤ k
  | [], k, _ => Int.le_refl _
  | x :: xs, k, h => by
    simp only [Pl.szL]
    split
    · omega
    · have := szL_dec xs (k - x.length) (by omega); omega
theorem szSS_fu {l : List (List Int)} {k : Int} (hk : Fu k) (h : 0 ≤ Pl.szSS l k) : Fu (Pl.szSS l k) := by
  refine ⟨h, ?_⟩
  unfold Pl.szSS at h ⊢
  split at h
  · omega
  · rename_i h'; rw [if_neg h']; have := szL_dec l (k - l.length) (by omega); omega

end Cg
