/-
  Quiet operations of the machine, held against the model's. No condition.
-/
import Derived.Test.YtdlmjdnjenhnfaaState
import Derived.WalkKit
import Derived.WalkLawsBesides
namespace Cg
open Go

section
variable {P : Program} {S : Nat → Prop} {μ : Nat → OI} {w : World}

theorem getD_some {α : Type} {l : List α} {i : Nat} {d a : α} (h : l.getD i d = a) (hne : a ≠ d) : l[i]? = some a := by
  rw [List.getD_eq_getElem?_getD] at h
  cases hi : l[i]? with
  | none => rw [hi] at h; exact absurd h.symm hne
  | some b => rw [hi] at h; simp at h; rw [h]

theorem H_getD {H : List AObj} {o : Nat} {x : AObj} (h : H.getD o .dead = x) (hne : x ≠ .dead) : H[o]? = some x := getD_some h hne

theorem cell_of {b off : Nat} {c : Array Value} {T : TypeId} {fr : Nat × Nat} (h : w.heap[b]? = some (.cells c T fr)) : w.cell? ⟨b, off, none⟩ = c[off]? := by
  simp [World.cell?, h]

theorem rangeCells_length (f : Nat → AV) : ∀ k n, (rangeCells f k n).length = n
  | _, 0 => rfl
  | k, n + 1 => by simp [rangeCells, rangeCells_length f (k + 1) n]

theorem rangeCells_get (f : Nat → AV) : ∀ (k n i : Nat), i < n → (rangeCells f k n)[i]? = some (f (k + i))
  | _, 0, i, h => by omega
  | k, n + 1, 0, _ => by simp [rangeCells]
  | k, n + 1, i + 1, h => by
    simp only [rangeCells, List.getElem?_cons_succ]
    rw [rangeCells_get f (k + 1) n i (by omega)]
    congr 2; omega

/-- What a pointer's cells hold. -/
theorem cellsAt_sound {H : List AObj} {av : AV} {n : Nat} {p : List Prop} {cs : List AV} (h : cellsAt H av n = some (p, cs)) (hp : ∀ q ∈ p, q) (hH : HOK S μ w H) {y : Value} (hr : Rel S μ w av y) :
    cs.length = n ∧ ∃ a : Addr, y = .pointer (some a) ∧ a.spot = none ∧ ∀ i v, cs[i]? = some v → ∃ x, w.cell? ⟨a.block, a.off + i, none⟩ = some x ∧ Rel S μ w v x := by
  unfold cellsAt at h
  split at h
  · rename_i o off
    split at h
    · rename_i l hl
      have hl := H_getD hl (by simp)
      cases hb : Nat.ble (off + n) l.length
      · simp [hb] at h
      · simp only [hb, cond_true, Option.some.injEq, Prod.mk.injEq] at h
        obtain ⟨rfl, rfl⟩ := h
        have hb' := Nat.le_of_ble_eq_true hb
        refine ⟨by simp; omega, ?_⟩
        obtain ⟨b, hμ, rfl⟩ := hr
        refine ⟨_, rfl, rfl, fun i v hi => ?_⟩
        obtain ⟨b', c, T, h1, h2, h3, _⟩ := hH.obj _ _ hl
        rw [hμ] at h1; cases h1
        rw [List.getElem?_take] at hi
        split at hi
        · rw [List.getElem?_drop] at hi
          obtain ⟨x, hx, hr⟩ := RelL_get h3 hi
          exact ⟨x, by rw [cell_of h2, ← Array.getElem?_toList]; exact hx, hr⟩
        · cases hi
    · cases h
  · rename_i m esz cell i off
    cases hb : Nat.ble (off + n) esz
    · simp [hb] at h
    · simp only [hb, cond_true, Option.some.injEq, Prod.mk.injEq] at h
      obtain ⟨rfl, rfl⟩ := h
      have hb' := Nat.le_of_ble_eq_true hb
      have hi : i < m := hp _ (by simp)
      refine ⟨rangeCells_length _ _ _, ?_⟩
      obtain ⟨b, o, rfl, _, c, T, fr, hc, hx⟩ := hr
      refine ⟨_, rfl, rfl, fun k v hk => ?_⟩
      have hkn : k < n := by
        have := (List.getElem?_eq_some_iff.1 hk).1
        rwa [rangeCells_length] at this
      rw [rangeCells_get _ _ _ _ hkn] at hk
      cases hk
      obtain ⟨x, h1, h2⟩ := hx i hi (off + k) (by omega)
      exact ⟨x, by rw [cell_of hc]; rw [← h1]; congr 1; simp; omega, Rel_of_RelI h2⟩
  · rename_i o i off
    split at h
    · rename_i m esz cell hl
      have hl := H_getD hl (by simp)
      cases hb : Nat.ble (off + n) esz
      · simp [hb] at h
      · simp only [hb, cond_true, Option.some.injEq, Prod.mk.injEq] at h
        obtain ⟨rfl, rfl⟩ := h
        have hb' := Nat.le_of_ble_eq_true hb
        have hi : i < m := hp _ (by simp)
        refine ⟨rangeCells_length _ _ _, ?_⟩
        obtain ⟨b, hμ, _, rfl⟩ := hr
        refine ⟨_, rfl, rfl, fun k v hk => ?_⟩
        have hkn : k < n := by
          have := (List.getElem?_eq_some_iff.1 hk).1
          rwa [rangeCells_length] at this
        rw [rangeCells_get _ _ _ _ hkn] at hk
        cases hk
        obtain ⟨he, ho⟩ := hH.obj _ _ hl
        rw [hμ] at ho
        obtain ⟨_, c, T, hc, _, hx⟩ := ho
        obtain ⟨x, h1, h2⟩ := hx i hi (off + k) (by omega)
        exact ⟨x, by rw [cell_of hc]; rw [← h1]; congr 1; simp [he]; omega, Rel_of_RelI h2⟩
    · rename_i m esz cell hl
      have hl := H_getD hl (by simp)
      cases hb : Nat.ble (off + n) esz
      · simp [hb] at h
      · simp only [hb, cond_true, Option.some.injEq, Prod.mk.injEq] at h
        obtain ⟨rfl, rfl⟩ := h
        have hb' := Nat.le_of_ble_eq_true hb
        have hi : i < m := hp _ (by simp)
        refine ⟨rangeCells_length _ _ _, ?_⟩
        obtain ⟨b, hμ, _, rfl⟩ := hr
        refine ⟨_, rfl, rfl, fun k v hk => ?_⟩
        have hkn : k < n := by
          have := (List.getElem?_eq_some_iff.1 hk).1
          rwa [rangeCells_length] at this
        rw [rangeCells_get _ _ _ _ hkn] at hk
        cases hk
        obtain ⟨he, ho⟩ := hH.obj _ _ hl
        rw [hμ] at ho
        obtain ⟨_, _, c, T, fr, hc, hx⟩ := ho
        obtain ⟨x, h1, h2⟩ := hx i hi (off + k) (by omega)
        exact ⟨x, by rw [cell_of hc]; rw [← h1]; congr 1; simp [he]; omega, Rel_of_RelI h2⟩
    · cases h
  · cases h

theorem add_eq {a : Addr} (ha : a.spot = none) (i : Nat) : a.add i = ⟨a.block, a.off + i, none⟩ := by
  obtain ⟨b, o, s⟩ := a
  simp only at ha
  subst ha
  unfold Addr.add
  split
  · rename_i h; subst h; rfl
  · rfl

/-- The values that lie behind a pointer, as one list. -/
theorem values_at {a : Addr} : ∀ (cs : List AV) (k : Nat), (∀ i v, cs[i]? = some v → ∃ x, w.cell? ⟨a.block, a.off + (k + i), none⟩ = some x ∧ Rel S μ w v x) →
    ∃ vs : List Value, RelL S μ w cs vs ∧ ∀ i v, vs[i]? = some v → w.cell? ⟨a.block, a.off + (k + i), none⟩ = some v
  | [], _, _ => ⟨[], rfl, fun i v h => by simp at h⟩
  | c :: cs, k, h => by
    obtain ⟨x, h1, h2⟩ := h 0 c (by simp)
    obtain ⟨vs, h3, h4⟩ := values_at cs (k + 1) (fun i v hi => by
      obtain ⟨x, h5, h6⟩ := h (i + 1) v (by simpa using hi)
      exact ⟨x, by rw [← h5]; congr 2; omega, h6⟩)
    refine ⟨x :: vs, ⟨x, vs, rfl, h2, h3⟩, fun i v hi => ?_⟩
    cases i with
    | zero => simp at hi; subst hi; simpa using h1
    | succ i => simp at hi; rw [← h4 i v hi]; congr 2; omega

theorem aggT_true {t : TypeId} (h : aggT P t = some true) : (isAgg t).run P w = .ok true w ∧ ∃ i, P.info? t = some i := by
  unfold aggT at h
  have hi : ∃ i, P.info? t = some i := by
    unfold Program.underlying at h
    cases hi : P.info? t with
    | none => rw [hi] at h; simp at h
    | some i => exact ⟨i, rfl⟩
  refine ⟨?_, hi⟩
  split at h
  · rename_i hu; simp [isAgg, Go.underlying, hu]
  · rename_i hu; simp [isAgg, Go.underlying, hu]
  · cases h
  · cases h

theorem aggT_false {t : TypeId} (h : aggT P t = some false) : (isAgg t).run P w = .ok false w := by
  unfold aggT at h
  split at h
  · cases h
  · cases h
  · rename_i d h1 h2 hu
    unfold isAgg Go.underlying
    simp only [Sem.run_bind, run_program, Result.andThen_ok, hu, Sem.run_pure]
  · cases h

end
end Cg
