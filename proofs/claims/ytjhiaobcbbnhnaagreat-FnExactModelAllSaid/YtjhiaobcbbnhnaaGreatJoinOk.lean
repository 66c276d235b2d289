/-
  The library's contracts: joined texts. No condition.
-/
import Derived.Test.YtjhiaobcbbnhnaaGreatJoinDefs
import Derived.Test.YtjhiaobcbbnhnaaGreatShJoin
set_option linter.unusedVariables false
set_option linter.unusedSimpArgs false
namespace Pl
open Go
theorem interL_eq (sep : List UInt8) : ∀ xs : List (List UInt8), Go.Lib.join xs sep = interL sep xs
  | [] => rfl
  | [x] => by simp [Go.Lib.join, List.intercalate, interL]
  | x :: y :: r => by
    have := interL_eq sep (y :: r)
    simp only [Go.Lib.join, List.intercalate, List.intersperse_cons_cons, List.flatten_cons] at this ⊢
    rw [interL, ← this]; simp
end Pl
namespace Cg
open Go Go.Proofs Pl
theorem Ext.ofBelow {w w' : World} (h : Go.RowKit.Below w.heap.size w w') : Ext w w' := ⟨h.os, h.tape, h.output, h.size, h.block⟩
theorem k_Join : SoundC Tryz.prog K_Join.1 K_Join.2 := ⟨callable_of (by kernel_rfl), fun x hx S w vals hin hrel => by
  obtain ⟨xs, sep⟩ := x
  obtain ⟨h1, h2⟩ : xs.length ≤ 140737488355328 ∧ (joinS xs sep).size ≤ 140737488355328 := hx
  obtain ⟨y0, r0, rfl, ha, y1, r1, rfl, hb, hc⟩ := hrel
  cases hc
  obtain ⟨a, cap, rfl, hcap, ha⟩ := ha
  have hb : y1 = .string sep := hb
  subst hb
  have hj : (⟨(Go.Lib.join (xs.map (·.data.toList)) sep.data.toList).toArray⟩ : ByteArray) = joinS xs sep := by
    rw [interL_eq]; rfl
  rcases ha with h0 | ⟨b, off, rfl, hS, c, T, fr, hheap, hcells⟩
  · have e : xs = [] := List.length_eq_zero_iff.1 h0
    subst e
    exact (Tryz.strings_Join_none a cap sep w).mono fun e w' ⟨he, hw⟩ => by
      subst hw
      exact ⟨_, S, he, Ext.refl _, fun _ h => h, fun _ h => .inl h, hin, rfl⟩
  · refine (Tryz.strings_Join b off cap xs sep w (fun j x hj => ?_) (hin b hS) h1 hcap (by
      have : (joinS xs sep).size = (Go.Lib.join (xs.map (·.data.toList)) sep.data.toList).length := by rw [← hj]; simp [ByteArray.size]
      omega)).mono fun e w' ⟨he, hw⟩ => ?_
    · obtain ⟨hlt, e⟩ := List.getElem?_eq_some_iff.1 hj
      obtain ⟨y, h3, h4⟩ := hcells j hlt 0 (by decide)
      have h4' : RelI S w (.v (.string (xs.getD j ByteArray.empty))) y := h4
      rw [RelI] at h4'
      have h5 : y = .string (xs.getD j ByteArray.empty) := h4'.1
      rw [h5] at h3
      simp only [Nat.mul_one, Nat.add_zero] at h3
      simp only [World.cell?, hheap, h3]
      simp [← e, hlt]
    · rw [hj] at he
      exact ⟨_, S, he, Ext.ofBelow hw, fun _ h => h, fun _ h => .inl h, fun b hb => Nat.lt_of_lt_of_le (hin b hb) hw.size, rfl⟩⟩
end Cg
