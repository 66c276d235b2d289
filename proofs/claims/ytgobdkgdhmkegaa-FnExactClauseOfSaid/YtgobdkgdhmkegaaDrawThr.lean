/-
  The codes' contracts: laws of drawn clause sets. No condition.
-/
import Derived.Test.YtgobdkgdhmkegaaDrawTwo
set_option linter.unusedVariables false
set_option linter.unusedSimpArgs false
set_option maxRecDepth 100000
namespace Cg
open Go Go.Proofs

theorem byt_of {l : List Int} (h : ∀ x ∈ l, (Lit.int .u8 x).wf = true) : Byt l := fun x hx => by
  have := h x hx
  simp [Lit.wf, IntKind.min, IntKind.max, IntKind.signed, IntKind.bits] at this
  omega
theorem ints_lit0 {c : Nat → Nat → AV} : Is (.lit 0 1 c) (ints []) := ints_nil.2 rfl
theorem yCnfIs_body (more : List Int) (hm : (more.length : Int) ≤ 1048576) : ∀ (a : Int) (b : List (List Int)) (v : List Bool) (k : Nat) (each so : Bool), Sm (a, b) → v.length ≤ 101 → k ≤ b.length → so = Pl.cnfIs (a, b) v → Pl.cnfIs (a, b) v = (each && (List.drop k b).all fun y => Pl.clauseIs y v) →
    (k < b.length → (each = true → k < b.length ∧ (b.getD k []).length ≤ 4294967296 ∧ v.length ≤ 4294967296 ∧
      ∃ a' b', Sm (a', b') ∧ ∃ v', v'.length ≤ 101 ∧ ∃ k', k' ≤ b'.length ∧ Pl.cnfIs (a', b') v' = (Pl.clauseIs (b.getD k []) v && (List.drop k' b').all fun y => Pl.clauseIs y v') ∧
        b'.length - k' < b.length - k ∧ v = v' ∧ so = Pl.cnfIs (a', b') v' ∧ IntKind.i64.wrap ((k : Int) + 1) = (k' : Int) ∧ a = a' ∧ b = b') ∧
      (each = false → ∃ a' b', Sm (a', b') ∧ ∃ v', v'.length ≤ 101 ∧ ∃ k', k' ≤ b'.length ∧ ∃ e', Pl.cnfIs (a', b') v' = (e' && (List.drop k' b').all fun y => Pl.clauseIs y v') ∧
        b'.length - k' < b.length - k ∧ v = v' ∧ so = Pl.cnfIs (a', b') v' ∧ e' = false ∧ IntKind.i64.wrap ((k : Int) + 1) = (k' : Int) ∧ a = a' ∧ b = b')) ∧
    (b.length ≤ k → ¬ IntKind.i64.wrap ((b.length : Int) + 1) = 0 ∧ (so = each → so = true →
      0 ≤ (more.length : Int).tmod (IntKind.i64.wrap ((b.length : Int) + 1)) ∧ (more.length : Int).tmod (IntKind.i64.wrap ((b.length : Int) + 1)) ≤ (b.length : Int) ∧
      ∃ x, Is (AV.sl ((more.length : Int).tmod (IntKind.i64.wrap ((b.length : Int) + 1))).toNat 1 (cII b)) (intss x) ∧ x.length ≤ 4294967296 ∧ (∀ (y : List Int), y ∈ x → y.length ≤ 4294967296) ∧ v.length ≤ 4294967296 ∧ Pl.cnfIs (a, x) v = true) ∧ so = each) := fun a b v k each so hs hv hk hso he => by
  obtain ⟨s1, s2⟩ : SzL b := hs.szC
  refine ⟨fun hlt => ⟨fun h => ⟨hlt, s2 _ (getD_mem [] hlt), by omega, a, b, hs, v, hv, k + 1, hlt, ?_, by omega, rfl, hso, wrap_succ hlt s1, rfl, rfl⟩, fun h => ⟨a, b, hs, v, hv, k + 1, hlt, false, ?_, by omega, rfl, hso, rfl, wrap_succ hlt s1, rfl, rfl⟩⟩, fun hge => ?_⟩
  · rw [he, h, drop_get [] hlt, List.all_cons, Bool.true_and]
  · rw [he, h]; rfl
  · rw [drop_end (by omega), List.all_nil, Bool.and_true] at he
    rw [wrap_small (by omega) (by omega)]
    have t1 : 0 ≤ (more.length : Int).tmod ((b.length : Int) + 1) := Int.tmod_nonneg _ (by omega)
    have t2 : (more.length : Int).tmod ((b.length : Int) + 1) < (b.length : Int) + 1 := Int.tmod_lt_of_pos _ (by omega)
    refine ⟨by omega, fun _ h => ⟨t1, by omega, b.take ((more.length : Int).tmod ((b.length : Int) + 1)).toNat, (intss_take (by omega)).2 rfl, by simp; omega, fun y hy => s2 y (List.mem_of_mem_take hy), by omega, Pl.cnfIs_take _ (by rw [← hso]; exact h)⟩, by rw [hso, he]⟩

end Cg
