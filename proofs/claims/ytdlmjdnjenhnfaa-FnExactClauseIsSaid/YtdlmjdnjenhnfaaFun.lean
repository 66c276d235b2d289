/-
  A function's code and its call. No condition.
-/
import Derived.Test.YtdlmjdnjenhnfaaCode
namespace Cg
open Go

section
variable {P : Program} {S : Nat → Prop} {μ : Nat → OI} {w : World}

theorem tmp_getD {fr : List AV} {tmps : Array Value} (h : RelL S μ w fr tmps.toList) (t : Nat) : Rel S μ w (fr.getD t .any) (tmps.getD t undef) := by
  rw [List.getD_eq_getElem?_getD]
  cases ht : fr[t]? with
  | none => trivial
  | some v =>
    obtain ⟨y, hy, hr⟩ := RelL_get h ht
    have : tmps.getD t undef = y := by rw [Array.getD_eq_getD_getElem?, ← Array.getElem?_toList, hy]; rfl
    rw [this]
    exact hr

theorem result_sound {s : St} (hH : HOK S μ w s.H) {tmps : Array Value} (hf : RelL S μ w s.fr tmps.toList) {rv : ResultVar} {p : List Prop} {r : AV} (h : resultA P s rv = some (p, r)) (hp : ∀ q ∈ p, q) :
    ∃ y, ((match rv with | .tmp t => pure (tmps.getD t undef) | .cell a t => do loadVar t (← asAddr (tmps.getD a undef))) : Sem Value).run P w = .ok y w ∧ Rel S μ w r y := by
  cases rv with
  | tmp t =>
    simp only [resultA, Option.some.injEq, Prod.mk.injEq] at h
    obtain ⟨rfl, rfl⟩ := h
    exact ⟨_, rfl, tmp_getD hf t⟩
  | cell a t =>
    simp only [resultA] at h
    obtain ⟨x, h1, h2⟩ := loadA_sound (P := P) h hp hH (tmp_getD hf a)
    refine ⟨x, ?_, h2⟩
    cases hy : tmps.getD a undef with
    | pointer b =>
      rw [hy] at h1
      cases b with
      | none => simp [Instr.loadAt, Instr.sureAddr] at h1
      | some b =>
        show Sem.run P (do loadVar t (← asAddr (tmps.getD a undef))) w = .ok x w
        rw [hy]
        simpa [Instr.loadAt, Instr.sureAddr, asAddr] using h1
    | _ => rw [hy] at h1; simp [Instr.loadAt, Instr.sureAddr] at h1

theorem resultsL_sound {s : St} (hH : HOK S μ w s.H) {tmps : Array Value} (hf : RelL S μ w s.fr tmps.toList) : ∀ {rs : List ResultVar} {p : List Prop} {as : List AV}, resultsL P s rs = some (p, as) → (∀ q ∈ p, q) →
    ∃ ys : List Value, (rs.mapM (fun rv => match rv with | .tmp t => pure (tmps.getD t undef) | .cell a t => do loadVar t (← asAddr (tmps.getD a undef)) : ResultVar → Sem Value)).run P w = .ok ys w ∧ RelL S μ w as ys
  | [], p, as, h, _ => by
    simp only [resultsL, Option.some.injEq, Prod.mk.injEq] at h
    obtain ⟨rfl, rfl⟩ := h
    exact ⟨[], rfl, rfl⟩
  | r :: rs, p, as, h, hp => by
    unfold resultsL at h
    split at h
    · rename_i p1 a q as' h1 h2
      simp only [Option.some.injEq, Prod.mk.injEq] at h
      obtain ⟨rfl, rfl⟩ := h
      obtain ⟨y, h3, h4⟩ := result_sound hH hf h1 (fun q hq => hp q (List.mem_append_left _ hq))
      obtain ⟨ys, h5, h6⟩ := resultsL_sound hH hf h2 (fun q hq => hp q (List.mem_append_right _ hq))
      refine ⟨y :: ys, ?_, y, ys, rfl, h4, h6⟩
      rw [List.mapM_cons]
      simp only [Sem.run_bind]
      rw [h3]
      simp only [Result.andThen_ok, h5, Sem.run_pure]
    · cases h

theorem results_sound {fn : Func} {s : St} (hH : HOK S μ w s.H) {tmps : Array Value} (hf : RelL S μ w s.fr tmps.toList) {p : List Prop} {r : AV} (h : resultsA P fn s = some (p, r)) (hp : ∀ q ∈ p, q) :
    ∃ y, (results fn tmps).run P w = .ok y w ∧ Rel S μ w r y := by
  unfold resultsA at h
  have fin : ∀ (q : List Prop) (as : List AV), resultsL P s fn.results.toList = some (q, as) → (∀ x ∈ q, x) → ∃ ys : List Value, RelL S μ w as ys ∧ (results fn tmps).run P w = .ok (if h : ys.toArray.size = 1 then ys.toArray[0] else .tuple ys.toArray) w := fun q as hl hq => by
    obtain ⟨ys, h1, h2⟩ := resultsL_sound hH hf hl hq
    refine ⟨ys, h2, ?_⟩
    unfold results
    rw [Array.mapM_eq_mapM_toList]
    simp only [Sem.run_bind, Sem.run_map]
    erw [h1]
    rfl
  split at h
  · rename_i q a hl
    simp only [Option.some.injEq, Prod.mk.injEq] at h
    obtain ⟨rfl, rfl⟩ := h
    obtain ⟨ys, ⟨y, _, rfl, h1, rfl⟩, h2⟩ := fin _ _ hl hp
    exact ⟨y, by rw [h2]; rfl, h1⟩
  · rename_i q as hne hl
    simp only [Option.some.injEq, Prod.mk.injEq] at h
    obtain ⟨rfl, rfl⟩ := h
    obtain ⟨ys, h1, h2⟩ := fin _ _ hl hp
    refine ⟨.tuple ys.toArray, ?_, ys, rfl, h1⟩
    rw [h2, dif_neg]
    intro h1s
    have : as.length = 1 := by rw [← RelL_length h1]; simpa using h1s
    cases as with
    | nil => cases this
    | cons a as => cases as with
      | nil => exact hne _ rfl
      | cons => simp at this
  · cases h

theorem view0_free (H : List AObj) (k : Nat) (a : AV) : ment k (view0 H a).2 = false := by
  unfold view0
  split
  · split <;> rfl
  · rfl
  · rfl
  · rfl
  · rfl

theorem viewL_free {f : AV → List Prop × AV} {k : Nat} (hf : ∀ a, ment k (f a).2 = false) : ∀ as : List AV, mentL k (viewL f as).2 = false
  | [] => rfl
  | a :: as => by simp [viewL, mentL, hf a, viewL_free hf as]

theorem view1_free (H : List AObj) (k : Nat) (a : AV) : ment k (view1 H a).2 = false := by
  unfold view1
  split
  · split <;> rfl
  · rfl
  · exact view0_free H k _

theorem view2_free (H : List AObj) (k : Nat) (a : AV) : ment k (view2 H a).2 = false := by
  unfold view2
  split
  · exact viewL_free (view0_free H k) _
  · exact viewL_free (view0_free H k) _
  · exact viewL_free (view1_free H k) _
  · exact view1_free H k _

/-- What a call of a function gives whose code the machine has gone through. -/
theorem awpF_sound {Γ : Ctx} (hm : P.follows .mixedOrders = true) (hΓ : CtxOK P Γ) {an : List Ann} {f : FuncId} {args : List AV} {K : AV → Prop} (h : awpF P Γ an f args K)
    {vals : List Value} (hin : ∀ b, S b → b < w.heap.size) (hx : RelL S mu0 w args vals) :
    Calls P f vals.toArray w (fun e w' => ∃ y S' r, e = .returned y ∧ K r ∧ (∀ k, ment k r = false) ∧ After S mu0 w r y w' S') := by
  unfold awpF at h
  split at h
  case h_2 => exact h.elim
  rename_i fn hf
  split at h
  case h_2 => exact h.elim
  rename_i c hc
  cases hbl : belowL 0 args
  · rw [hbl] at h; exact h.elim
  rw [hbl] at h
  simp only [cond_true] at h
  let E : Ent := ⟨S, mu0, [], w⟩
  have hnl : ∀ o, ¬ LiveAt ([] : List AObj) o := fun o ho => by have := ho.lt; simp at this
  have hnb : ∀ b, ¬ Blk mu0 [] b := fun b ⟨o, ho, _⟩ => hnl o ho
  have hok : HOK S mu0 w [] := ⟨fun o x ho => by simp at ho, fun o cs ho => by simp at ho, fun o o' b ho => absurd ho (hnl o), fun o b ho => absurd ho (hnl o), hin⟩
  have hmem : ∀ (n : Nat), mentL n (List.replicate (fn.ntmps - args.length) (AV.v undef)) = false := fun n => mentL_of fun a ha => by rw [(List.mem_replicate.1 ha).2]; rfl
  have hvl := RelL_length hx
  have hg : G E { fr := args ++ List.replicate (fn.ntmps - args.length) (.v undef), H := [] } { tmps := vals.toArray ++ Array.replicate (fn.ntmps - vals.toArray.size) undef, defers := [] } w :=
    ⟨S, mu0, ⟨rfl, by
      have e1 : (vals.toArray ++ Array.replicate (fn.ntmps - vals.toArray.size) undef).toList = vals ++ List.replicate (fn.ntmps - args.length) undef := by simp [hvl]
      rw [e1]
      exact RelL_append hx (RelL_replicate (a := .v undef) (y := undef) rfl _),
      fun k _ => mentL_append ((below_ment (Nat.zero_le k)).2 _ hbl) (hmem k), hok, fun _ h => h, fun _ h => .inl h, fun _ _ => rfl, Nat.le_refl _, Kept.refl _ _ _, fun o b ho => absurd ho (hnl o)⟩⟩
  refine calls_of_wp hf hc (wp_mono (awp_sound (E := E) hm hΓ rfl c an _ _ _ _ h hg) fun e a w' he => ?_)
  obtain ⟨st, hq, S', μ', g⟩ := he
  have fin : (match resultsA P fn st with | some (p, r) => need p (match view2 st.H r with | (q, r') => need q (K r')) | none => False) → a.defers = [] ∧ ∃ v, (results fn a.tmps).run P w' = .ok v w' ∧ ∃ y S' r, (Ending.returned v) = .returned y ∧ K r ∧ (∀ k, ment k r = false) ∧ After S mu0 w r y w' S' := fun hq => by
    split at hq
    case h_2 => exact hq.elim
    rename_i p r hr
    obtain ⟨hp, hq⟩ := need_elim hq
    obtain ⟨y, h1, h2⟩ := results_sound g.hok g.fr hr hp
    obtain ⟨hp2, hK⟩ := need_elim hq
    refine ⟨g.defers, y, h1, y, Lent S' μ' st.H, _, rfl, hK, fun k => view2_free _ k _, ⟨g.kept.os, g.kept.tape, g.kept.output, g.kept.size, fun b hb => g.kept.block b hb (hnb b)⟩, fun b hb => .inl (g.sub b hb), fun b hb => ?_, lent_lt g.hok, view2_sound g.hok hp2 h2⟩
    rcases hb with hb | ⟨o, ho, hb⟩
    · rcases g.new b hb with h | h | h
      · exact .inl h
      · exact .inr h
      · exact absurd h (hnb b)
    · rcases g.mine o b ho hb with h | h
      · exact .inr h
      · exact absurd h (hnb b)
  cases e with
  | normal => exact fin hq
  | ret => exact fin hq
  | _ => exact hq.elim

/-- A function's contract out of its code. -/
theorem pure_of {Γ : Ctx} (hm : P.follows .mixedOrders = true) (hΓ : CtxOK P Γ) {f : FuncId} {args : List AV} {r : AV} (an : List Ann) (h : awpF P Γ an f args (fun r' => avLe 0 r' r)) : PureAt P f args r := fun S w vals hin hx =>
  (awpF_sound hm hΓ h hin hx).mono fun e w' he => by
    obtain ⟨y, S', r', rfl, hle, hmt, h1, h2, h3, h4, h5⟩ := he
    exact ⟨y, S', rfl, h1, h2, h3, h4, avLe_sound (g := 0) (fun _ _ => rfl) (fun _ _ => rfl) (fun k _ => hmt k) hle h5⟩

end
end Cg
