/-
  The codes' contracts: rows of rows, values of marks. No condition.
-/
import Derived.Test.YtjhiaobcbbnhnaaGreatRowsVc
import Derived.Test.YtjhiaobcbbnhnaaGreatClauseLaw
set_option linter.unusedVariables false
set_option linter.unusedSimpArgs false
set_option maxRecDepth 100000
namespace Cg
open Go Go.Proofs

theorem k_szIntS : SoundC Tryz.prog K_szIntS.1 K_szIntS.2 := sound_of hm CtxOK.nil (fun _ => []) (by kernel_rfl) fun (l, k) hl => cast (vc_szIntS l k) (by
  obtain ⟨h1, h2, h3⟩ : Ml l ∧ Fu k := hl
  rw [wrap_small (by omega) (by omega)]
  simp only [condP_dec, Pl.sz1]
  exact ⟨fun h => by rw [if_pos h], fun h => by rw [if_neg h]⟩)

theorem logEnds_vc (l : List (List Int)) (hl : Sz l) : (0 < l.length →
      0 ≤ IntKind.i64.wrap (↑l.length - 1) ∧
        IntKind.i64.wrap (↑l.length - 1) < ↑l.length ∧
          (IntKind.i64.wrap (↑l.length - 1)).toNat < l.length ∧
            (((l.getD (IntKind.i64.wrap (↑l.length - 1)).toNat []).length : Int) == 0) =
              (decide (0 < l.length) && decide (l.getD (l.length - 1) [] = []))) ∧
    (l = [] → 0 < l.length → ¬l.getD (l.length - 1) [] = []) := by
  rw [wrap_small (by omega) (by omega)]
  refine ⟨fun hp => ?_, fun h => by simp [h]⟩
  have e : ((l.length : Int) - 1).toNat = l.length - 1 := by omega
  rw [e, decide_eq_true hp]
  refine ⟨by omega, by omega, by omega, ?_⟩
  cases l.getD (l.length - 1) [] <;> simp
  omega

theorem idx_lt {α : Type} (p : α → Bool) : ∀ l : List α, -1 ≤ Pl.idx p l
  | [] => by simp [Pl.idx]
  | x :: l => by have := idx_lt p l; simp only [Pl.idx]; split <;> (try split) <;> omega

/-- One round of slices.IndexFunc. -/
theorem idx_step {α : Type} (d : α) (p : α → Bool) {l : List α} {k : Nat} (hk : k < l.length) (he : Pl.idx p l = if Pl.idx p (l.drop k) < 0 then -1 else Pl.idx p (l.drop k) + k) :
    (p (l.getD k d) = true → (k : Int) = Pl.idx p l) ∧ (p (l.getD k d) = false → Pl.idx p l = if Pl.idx p (l.drop (k + 1)) < 0 then -1 else Pl.idx p (l.drop (k + 1)) + ((k + 1 : Nat) : Int)) := by
  rw [drop_get d hk] at he
  have := idx_lt p (l.drop (k + 1))
  refine ⟨fun h => ?_, fun h => ?_⟩
  · rw [he]; simp only [Pl.idx, h, if_true]; simp
  · rw [he]
    simp only [Pl.idx, h, Bool.false_eq_true, if_false]
    split
    · simp
    · split <;> omega
theorem idx_init {α : Type} (p : α → Bool) (l : List α) : Pl.idx p l = if Pl.idx p (l.drop 0) < 0 then -1 else Pl.idx p (l.drop 0) + ((0 : Nat) : Int) := by
  have := idx_lt p l
  simp only [List.drop_zero]
  split <;> omega
theorem idx_end {α : Type} (p : α → Bool) {l : List α} {k : Nat} (hk : l.length ≤ k) (he : Pl.idx p l = if Pl.idx p (l.drop k) < 0 then -1 else Pl.idx p (l.drop k) + k) : -1 = Pl.idx p l := by
  rw [he, drop_end (by omega)]; simp [Pl.idx]

theorem idx_any {α : Type} (p : α → Bool) : ∀ l : List α, decide (Pl.idx p l ≥ 0) = l.any p
  | [] => by simp [Pl.idx]
  | x :: l => by
    have h := idx_any p l
    have := idx_lt p l
    simp only [Pl.idx, List.any_cons]
    by_cases hp : p x = true
    · simp [hp]
    · simp only [hp, Bool.false_eq_true, if_false, Bool.false_or]
      rw [← h]
      by_cases hq : Pl.idx p l < 0
      · rw [if_pos hq, decide_eq_false (by omega), decide_eq_false (by omega)]
      · rw [if_neg hq, decide_eq_true (by omega), decide_eq_true (by omega)]

end Cg
