/-
  The abstract machine, part MachC. No condition.
-/
import Derived.Test.YtfgchlkagiihnaaMachA
import Derived.Test.YtfgchlkagiihnaaMachB
set_option linter.unusedVariables false
set_option linter.unusedSimpArgs false
/-
  States that say less, under other names; a callee that is handed some of the objects turns these alone. No condition.
-/
namespace Cg
open Go

theorem below_ment {n k : Nat} (hk : n ≤ k) : (∀ (a : AV), below n a = true → ment k a = false) ∧ (∀ (l : List AV), belowL n l = true → mentL k l = false) := by
  have ptr : ∀ o, Nat.blt o n = true → Nat.beq k o = false := fun o h => by
    have := blt_iff.1 h
    cases hb : Nat.beq k o
    · rfl
    · have := beq_iff.1 hb; omega
  constructor
  · exact go1 ptr
  · exact go2 ptr
  where
  go1 {n k : Nat} (ptr : ∀ o, Nat.blt o n = true → Nat.beq k o = false) : ∀ (a : AV), below n a = true → ment k a = false
    | .v _, _ => rfl
    | .any, _ => rfl
    | .agg cs, h => go2 ptr cs h
    | .tup cs, h => go2 ptr cs h
    | .fn _ cs, h => go2 ptr cs h
    | .sl _ _ _, _ => rfl
    | .lit _ _ _, _ => rfl
    | .hdr _ _ _ _, _ => rfl
    | .el _ _ _ _ _, _ => rfl
    | .ptr o _, h => ptr o h
    | .osl o _ _, h => ptr o h
    | .oel o _ _, h => ptr o h
    | .xsl o _ _ _, h => ptr o h
    | .olit _ cs, h => go2 ptr cs h
  go2 {n k : Nat} (ptr : ∀ o, Nat.blt o n = true → Nat.beq k o = false) : ∀ (l : List AV), belowL n l = true → mentL k l = false
    | [], _ => rfl
    | a :: l, h => by
      simp only [belowL, Bool.and_eq_true] at h
      simp only [mentL, Bool.or_eq_false_iff]
      exact ⟨go1 ptr a h.1, go2 ptr l h.2⟩

theorem belowH_var {n : Nat} : ∀ {H : List AObj} {o : Nat} {cs : List AV}, belowH n H = true → H[o]? = some (.var cs) → belowL n cs = true
  | [], _, _, _, h => by simp at h
  | x :: H, o, cs, h, ho => by
    cases o with
    | zero => simp at ho; subst ho; simp only [belowH, Bool.and_eq_true] at h; exact h.1
    | succ o =>
      simp at ho
      refine belowH_var (H := H) (o := o) ?_ ho
      cases x <;> simp only [belowH, Bool.and_eq_true] at h <;> first | exact h.2 | exact h

theorem hLe_at {σ : Sg} {H : List AObj} : ∀ {H' : List AObj} {k j : Nat} {x' : AObj}, hLe σ H k H' → H'[j]? = some x' → (∃ o, σ.at (k + j) = some o ∧ objLe σ H (H.getD o .dead) x') ∨ (σ.at (k + j) = none ∧ newLe x')
  | [], _, _, _, _, h => by simp at h
  | b :: bs, k, j, x', h, hj => by
    obtain ⟨h1, h2⟩ := h
    cases j with
    | zero =>
      simp at hj; subst hj
      simp only [Nat.add_zero]
      split at h1
      · rename_i o ho; exact .inl ⟨o, ho, h1⟩
      · rename_i ho; exact .inr ⟨ho, h1⟩
    | succ j =>
      simp at hj
      have := hLe_at h2 hj
      rwa [show k + (j + 1) = k + 1 + j by omega]

theorem dupD_spec {H : List AObj} {o : Nat} : ∀ {r : Sg} {k j : Nat}, dupD H o k r = false → r[j]? = some (some o) → deadAt H (k + j) = true
  | [], _, _, _, h => by simp at h
  | y :: r, k, j, hd, h => by
    simp only [dupD, Bool.or_eq_false_iff] at hd
    cases j with
    | zero =>
      simp at h
      subst h
      have := hd.1
      simp only [beq_iff.2 rfl, Bool.true_and, Bool.not_eq_false'] at this
      exact this
    | succ j =>
      have := dupD_spec (j := j) hd.2 (by simpa using h)
      rwa [show k + 1 + j = k + (j + 1) by omega] at this
theorem live_alive {H : List AObj} {k : Nat} (h : LiveAt H k) : deadAt H k = false := by
  unfold deadAt
  rw [List.getD_eq_getElem?_getD]
  rcases LiveAt_iff.1 h with ⟨cs, h⟩ | ⟨n, e, c, h | h⟩ <;> rw [h] <;> rfl
theorem noDead_at : ∀ {H : List AObj} {k : Nat}, noDead H = true → k < H.length → deadAt H k = false
  | [], _, _, h => by simp at h
  | x :: H, k, h, hk => by
    have h2 : noDead H = true ∧ deadAt (x :: H) 0 = false := by cases x <;> first | (simp [noDead] at h; done) | exact ⟨h, rfl⟩
    cases k with
    | zero => exact h2.2
    | succ k => exact noDead_at (H := H) h2.1 (by simpa using hk)
theorem sgOk_spec {base n : Nat} {H : List AObj} : ∀ {σ : Sg} {k j : Nat}, sgOk base n H k σ = true →
    (∀ o, σ[j]? = some (some o) → o < n ∧ (k + j < base → o = k + j) ∧ (deadAt H (k + j) = false → ∀ j', j < j' → deadAt H (k + j') = false → σ[j']? ≠ some (some o))) ∧ (σ[j]? = some none → base ≤ k + j)
  | [], _, _, _ => by simp
  | x :: r, k, j, h => by
    simp only [sgOk, Bool.and_eq_true] at h
    obtain ⟨h1, h2⟩ := h
    cases j with
    | zero =>
      refine ⟨fun o ho => ?_, fun ho => ?_⟩
      · simp at ho
        subst ho
        simp only [Bool.and_eq_true, Bool.or_eq_true, Bool.not_eq_true'] at h1
        obtain ⟨⟨h3, h4⟩, h5⟩ := h1
        refine ⟨blt_iff.1 h3, fun hk => ?_, fun hd j' hj' hd' he => ?_⟩
        · rw [blt_iff.2 (by simpa using hk)] at h4; simpa using beq_iff.1 h4
        · obtain ⟨m, rfl⟩ : ∃ m, j' = m + 1 := ⟨j' - 1, by omega⟩
          simp at he
          rcases h5 with h5 | h5
          · rw [Nat.add_zero] at hd; rw [hd] at h5; cases h5
          · have := dupD_spec h5 he
            rw [show k + 1 + m = k + (m + 1) by omega, hd'] at this; cases this
      · simp at ho
        subst ho
        simp only [Bool.not_eq_true'] at h1
        rcases Nat.lt_or_ge k base with h | h
        · rw [blt_iff.2 h] at h1; cases h1
        · simpa using h
    | succ j =>
      have ih := sgOk_spec (j := j) h2
      refine ⟨fun o ho => ?_, fun ho => ?_⟩
      · simp at ho
        obtain ⟨h3, h4, h5⟩ := ih.1 o ho
        refine ⟨h3, fun hk => by have := h4 (by omega); omega, fun hd j' hj' hd' he => ?_⟩
        obtain ⟨m, rfl⟩ : ∃ m, j' = m + 1 := ⟨j' - 1, by omega⟩
        simp at he
        exact h5 (by rwa [show k + 1 + j = k + (j + 1) by omega]) m (by omega) (by rwa [show k + 1 + m = k + (m + 1) by omega]) he
      · simp at ho
        have := ih.2 ho
        omega

theorem at_some {σ : Sg} {k o : Nat} (h : σ.at k = some o) : σ[k]? = some (some o) := by
  unfold Sg.at at h
  rw [List.getD_eq_getElem?_getD] at h
  cases hk : σ[k]? with
  | none => rw [hk] at h; simp at h
  | some x => rw [hk] at h; simp at h; rw [h]

theorem at_none {σ : Sg} {k : Nat} (h : σ.at k = none) (hk : k < σ.length) : σ[k]? = some none := by
  unfold Sg.at at h
  rw [List.getD_eq_getElem?_getD] at h
  rw [List.getElem?_eq_getElem hk] at h ⊢
  simp at h
  rw [h]

/-- What a check of names gives. -/
structure Fit (base : Nat) (σ : Sg) (s t : St) : Prop where
  le : base ≤ t.H.length
  fr : belowL t.H.length t.fr = true
  H : belowH t.H.length t.H = true
  len : σ.length = t.H.length
  lt : ∀ k o, σ.at k = some o → k < t.H.length ∧ o < s.H.length ∧ (k < base → o = k)
  inj : ∀ k k' o, deadAt t.H k = false → deadAt t.H k' = false → σ.at k = some o → σ.at k' = some o → k = k'
  old : ∀ k, k < base → σ.at k = some k

theorem fit_of {base : Nat} {σ : Sg} {s t : St} (h : sgFit base σ s t = true) : Fit base σ s t := by
  simp only [sgFit, Bool.and_eq_true] at h
  obtain ⟨⟨⟨⟨h1, h2⟩, h3⟩, h4⟩, h5⟩ := h
  have hb := ble_iff.1 h1
  have hl := beq_iff.1 h5
  have lt : ∀ k o, σ.at k = some o → k < t.H.length ∧ o < s.H.length ∧ (k < base → o = k) := fun k o ho => by
    have h6 := at_some ho
    obtain ⟨h7, h8, _⟩ := (sgOk_spec (j := k) h4).1 o h6
    exact ⟨by rw [← hl]; exact (List.getElem?_eq_some_iff.1 h6).1, h7, fun hk => by have := h8 (by omega); omega⟩
  refine ⟨hb, h2, h3, hl, lt, fun k k' o hd hd' hk hk' => ?_, fun k hk => ?_⟩
  · rcases Nat.lt_trichotomy k k' with h | h | h
    · exact absurd (at_some hk') (((sgOk_spec (j := k) h4).1 o (at_some hk)).2.2 (by rwa [Nat.zero_add]) k' h (by rwa [Nat.zero_add]))
    · exact h
    · exact absurd (at_some hk) (((sgOk_spec (j := k') h4).1 o (at_some hk')).2.2 (by rwa [Nat.zero_add]) k h (by rwa [Nat.zero_add]))
  · cases ho : σ.at k with
    | none =>
      have := (sgOk_spec (j := k) h4).2 (at_none ho (by omega))
      omega
    | some o => rw [(lt k o ho).2.2 hk]

/-- What names stand for, of those that say less. -/
def muS (σ : Sg) (μ : Nat → OI) (H' : List AObj) (k : Nat) : OI := match σ.at k with
  | some o => μ o
  | none => ⟨none, 0, 0, match H'[k]? with
    | some (.arr _ e _) => e
    | some (.xarr _ e _) => e
    | _ => 0, fun _ _ => none⟩

section
variable {S : Nat → Prop} {μ : Nat → OI} {w : World}

theorem muS_some {σ : Sg} {H' : List AObj} {k o : Nat} (h : σ.at k = some o) : muS σ μ H' k = μ o := by unfold muS; rw [h]
theorem muS_none {σ : Sg} {H' : List AObj} {k : Nat} (h : σ.at k = none) : (muS σ μ H' k).b = none := by unfold muS; rw [h]

theorem row_is {n e : Nat} {c c' : Nat → Nat → AV} (h : ∀ i, i < n → ∀ j, j < e → Is (c i j) (c' i j)) {C : Array Value} {off : Nat} (hx : ∀ i, i < n → ∀ j, j < e → ∃ x, C[off + i * e + j]? = some x ∧ RelI S w (c i j) x) :
    ∀ i, i < n → ∀ j, j < e → ∃ x, C[off + i * e + j]? = some x ∧ RelI S w (c' i j) x := fun i hi j hj => by
  obtain ⟨x, h1, h2⟩ := hx i hi j hj
  exact ⟨x, h1, Is_RelI (h i hi j hj) h2⟩

theorem live_of_le {σ : Sg} {H : List AObj} {x x' : AObj} (h : objLe σ H x x') (hl : LiveAt [x'] 0) : LiveAt [x] 0 := by
  cases x' with
  | dead => exact hl.elim
  | fro n e c => exact hl.elim
  | var cs => cases x <;> simp only [objLe, IsO] at h; trivial
  | arr n e c => cases x <;> simp only [objLe, IsO] at h; trivial
  | xarr n e c => cases x <;> simp only [objLe, IsO] at h; trivial

theorem live_getD {H : List AObj} {o : Nat} (h : LiveAt [H.getD o .dead] 0) : LiveAt H o := by
  unfold LiveAt at h ⊢
  rw [List.getD_eq_getElem?_getD] at h
  cases ho : H[o]? with
  | none => rw [ho] at h; exact h
  | some x => rw [ho] at h; exact h

/-- Which objects live in the one that says less. -/
theorem live_le {σ : Sg} {H H' : List AObj} (hH : hLe σ H 0 H') {k : Nat} (hl : LiveAt H' k) : (∃ o, σ.at k = some o ∧ LiveAt H o) ∨ σ.at k = none := by
  obtain ⟨x', hx'⟩ : ∃ x', H'[k]? = some x' := ⟨_, List.getElem?_eq_getElem hl.lt⟩
  rcases hLe_at hH hx' with ⟨o, h1, h2⟩ | ⟨h1, _⟩
  · simp only [Nat.zero_add] at h1
    exact .inl ⟨o, h1, live_getD (live_of_le h2 ((LiveAt_one hx').2 hl))⟩
  · simp only [Nat.zero_add] at h1
    exact .inr h1

theorem thaw0_sound {H : List AObj} (hH : HOK S μ w H) {a : AV} {y : Value} (hp : ∀ q ∈ (thaw0 H a).1, q) (h : Rel S μ w a y) : Rel S μ w (thaw0 H a).2 y := by
  unfold thaw0 at hp ⊢
  split
  · rename_i o lo n
    split
    · rename_i m esz cell hl
      have hl := H_getD hl (by simp)
      simp only [hl, List.getD_eq_getElem?_getD, Option.getD_some] at hp
      have hm : lo + n ≤ m := hp _ (List.mem_singleton.2 rfl)
      obtain ⟨he, ho⟩ := hH.obj _ _ hl
      unfold Rel at h
      split at h
      · obtain ⟨rfl, rfl, a, rfl⟩ := h; exact ⟨a, 0, rfl, Nat.le_refl _, .inl rfl⟩
      · rename_i b hb
        obtain ⟨h3, a, rfl, h4⟩ := h
        rw [hb] at ho
        obtain ⟨h5, hs, c, T, fr, h6, h8⟩ := ho
        refine ⟨_, _, rfl, by omega, ?_⟩
        by_cases hn : n = 0
        · exact .inl hn
        · have ha := h4 (by omega)
          subst ha
          refine .inr ⟨b, _, rfl, hs, c, T, fr, h6, fun i hi j hj => ?_⟩
          obtain ⟨x, h9, h10⟩ := h8 (i + lo) (by omega) j hj
          exact ⟨x, by rw [← h9]; congr 1; rw [he, Nat.add_mul]; omega, h10⟩
    · exact h
  · exact h
theorem thaw1_sound {H : List AObj} (hH : HOK S μ w H) {a : AV} {y : Value} (hp : ∀ q ∈ (thaw1 H a).1, q) (h : Rel S μ w a y) : Rel S μ w (thaw1 H a).2 y := by
  unfold thaw1 at hp ⊢
  split
  · obtain ⟨vs, rfl, h⟩ := h
    exact ⟨vs, rfl, viewL_sound (f := thaw0 H) (RR := Rel S μ w) (fun a y hq hr => thaw0_sound hH hq hr) (RelL_pairs h).1 (RelL_pairs h).2 hp⟩
  · rename_i hno
    exact thaw0_sound hH (by
      split at hp
      · rename_i cs; exact absurd rfl (hno cs)
      · exact hp) h


theorem frLeT_sound {μ' : Nat → OI} {σ : Sg} {H : List AObj} (hok : HOK S μ w H) (hσ : ∀ o' o, σ.at o' = some o → μ' o' = μ o) (hnew : ∀ o', σ.at o' = none → (μ' o').b = none) :
    ∀ {as bs : List AV} {ys : List Value}, frLeT σ H as bs → RelL S μ w as ys → RelL S μ' w bs ys
  | [], [], _, _, h => h
  | [], _ :: _, _, h, _ => by simp [frLeT] at h
  | _ :: _, [], _, h, _ => by simp [frLeT] at h
  | a :: as, b :: bs, ys, h, hr => by
    obtain ⟨y, r, rfl, h1, h2⟩ := hr
    unfold frLeT at h
    split at h
    · rename_i h0; cases h0
    · rename_i heq1 heq2
      cases heq1; cases heq2
      exact ⟨y, r, rfl, trivial, frLeT_sound hok hσ hnew h h2⟩
    · rename_i heq1 heq2
      cases heq1; cases heq2
      obtain ⟨h3, h4⟩ := h
      obtain ⟨hq, h3⟩ := need_elim h3
      exact ⟨y, r, rfl, avLe_sound hσ hnew h3 (thaw1_sound hok hq h1), frLeT_sound hok hσ hnew h4 h2⟩
    · exact h.elim

theorem IsX_RelX0 : ∀ (a b : AV) {inn : Nat → Nat → Option Inn} {i j : Nat} {y : Value}, IsX a b → RelX0 w a inn i j y → RelX0 w b inn i j y
  | .sl n e c, b, inn, i, j, y, h, hr => by
    cases b <;> simp only [IsX] at h
    · show isOne y = true
      unfold RelX0 at hr
      revert hr
      cases inn i j with
      | none => rintro ⟨_, a, rfl⟩; rfl
      | some q => rintro ⟨_, _, rfl, _⟩; rfl
    · obtain ⟨rfl, rfl, h⟩ := h
      unfold RelX0 at hr ⊢
      revert hr
      cases inn i j with
      | none => exact id
      | some q =>
        rintro ⟨h1, h2, h3, h0, C, T, h4, h5, h6⟩
        refine ⟨h1, h2, h3, h0, C, T, h4, h5, fun i hi j hj => ?_⟩
        obtain ⟨x, h7, h8⟩ := h6 i hi j hj
        exact ⟨x, h7, IsX_RelX0 (c i j) _ (h i hi j hj) h8⟩
  | .v x, b, inn, i, j, y, h, hr => by
    cases b <;> simp only [IsX] at h
    · subst h; exact hr
    · exact hr.2
  | .any, b, inn, i, j, y, h, hr => by
    cases b <;> simp only [IsX] at h
    exact hr
  | .lit _ _ _, b, _, _, _, _, h, _ => by cases b <;> simp only [IsX] at h
  | .agg _, b, _, _, _, _, h, _ => by cases b <;> simp only [IsX] at h
  | .tup _, b, _, _, _, _, h, _ => by cases b <;> simp only [IsX] at h
  | .el _ _ _ _ _, b, _, _, _, _, h, _ => by cases b <;> simp only [IsX] at h
  | .ptr _ _, b, _, _, _, _, h, _ => by cases b <;> simp only [IsX] at h
  | .osl _ _ _, b, _, _, _, _, h, _ => by cases b <;> simp only [IsX] at h
  | .oel _ _ _, b, _, _, _, _, h, _ => by cases b <;> simp only [IsX] at h
  | .xsl _ _ _ _, b, _, _, _, _, h, _ => by cases b <;> simp only [IsX] at h
  | .olit _ _, b, _, _, _, _, h, _ => by cases b <;> simp only [IsX] at h
  | .fn _ _, b, _, _, _, _, h, _ => by cases b <;> simp only [IsX] at h
  | .hdr _ _ _ _, b, _, _, _, _, h, _ => by cases b <;> simp only [IsX] at h
theorem IsX_RelX {inn : Nat → Nat → Option Inn} {i j : Nat} {a b : AV} {y : Value} (h : IsX a b) (hr : RelX S inn w i j a y) : RelX S inn w i j b y := IsX_RelX0 a b h hr

theorem has_le {σ : Sg} {H : List AObj} {x x' : AObj} {q : OI} {b : Nat} (h : objLe σ H x x') (hb : HasB x' q b) : HasB x q b := by
  cases x' with
  | dead => exact hb.elim
  | fro n e c => exact hb.elim
  | var cs => cases x <;> simp only [objLe, IsO] at h; exact hb
  | arr n e c => cases x <;> simp only [objLe, IsO] at h; exact hb
  | xarr n e c => cases x <;> simp only [objLe, IsO] at h; exact hb

/-- What is owned in the one that says less. -/
theorem own_le {σ : Sg} {H H' : List AObj} (hH : hLe σ H 0 H') {k b : Nat} (hl : Own (muS σ μ H') H' k b) : ∃ o, σ.at k = some o ∧ Own μ H o b := by
  obtain ⟨x', hx', hb⟩ := hl
  rcases hLe_at hH hx' with ⟨o, h1, h2⟩ | ⟨h1, h2⟩
  · simp only [Nat.zero_add] at h1
    rw [muS_some h1] at hb
    have h3 := has_le h2 hb
    rw [List.getD_eq_getElem?_getD] at h3
    cases ho : H[o]? with
    | none => rw [ho] at h3; exact h3.elim
    | some x => rw [ho] at h3; exact ⟨o, h1, x, ho, h3⟩
  · simp only [Nat.zero_add] at h1
    have e1 : (muS σ μ H' k).b = none := muS_none h1
    have e2 : (muS σ μ H' k).inn = fun _ _ => none := by unfold muS; rw [h1]
    cases x' with
    | dead => exact hb.elim
    | fro n e c => exact hb.elim
    | var cs => exact h2.elim
    | arr n e c => have hb : (muS σ μ H' k).b = some b := hb; rw [e1] at hb; cases hb
    | xarr n e c =>
      rcases hb with hb | ⟨i, j, v, hv, _⟩
      · rw [e1] at hb; cases hb
      · rw [e2] at hv; cases hv

theorem HOK.le {base : Nat} {σ : Sg} {s t : St} (h : HOK S μ w s.H) (hf : Fit base σ s t) (hH : hLe σ s.H 0 t.H) : HOK S (muS σ μ t.H) w t.H := by
  have hσ : ∀ o' o, σ.at o' = some o → muS σ μ t.H o' = μ o := fun _ _ h => muS_some h
  have hnew : ∀ o', σ.at o' = none → (muS σ μ t.H o').b = none := fun _ h => muS_none h
  refine { obj := fun k x' hk => ?_, ids := fun k cs hk j hj => (below_ment hj).2 _ (belowH_var hf.H hk), seps := fun k k' b hne hb1 hb2 => ?_, owns := fun k b hb1 => ?_, inS := h.inS, gl := h.gl }
  · rcases hLe_at hH hk with ⟨o, h1, h2⟩ | ⟨h1, h2⟩
    · simp only [Nat.zero_add] at h1
      have hol := (hf.lt k o h1).2.1
      have hget : s.H[o]? = some (s.H.getD o .dead) := by rw [List.getD_eq_getElem?_getD, List.getElem?_eq_getElem hol]; rfl
      have hR := h.obj o _ hget
      generalize s.H.getD o AObj.dead = x at h2 hR
      cases x' with
      | dead => trivial
      | var cs' =>
        cases x <;> simp only [objLe, IsO] at h2
        obtain ⟨b, C, T, h3, h4, h5, h6⟩ := hR
        exact ⟨b, C, T, by rw [muS_some h1]; exact h3, h4, frLeT_sound h hσ hnew h2 h5, h6⟩
      | arr n' e' c' =>
        cases x <;> simp only [objLe, IsO] at h2
        obtain ⟨rfl, h2⟩ := h2
        obtain ⟨h3, h4⟩ := hR
        refine ⟨by rw [muS_some h1]; exact h3, ?_⟩
        rw [muS_some h1]
        cases hq : (μ o).b with
        | none =>
          rw [hq] at h4
          rcases h2 with h2 | ⟨h2, _⟩
          · exact h2
          · rw [← h2]; exact h4
        | some b =>
          rw [hq] at h4
          obtain ⟨h5, C, T, h6, h7, h8⟩ := h4
          rcases h2 with rfl | ⟨rfl, h2⟩
          · exact ⟨Nat.zero_le _, C, T, h6, h7, fun i hi => by omega⟩
          · exact ⟨h5, C, T, h6, h7, row_is h2 h8⟩
      | fro n' e' c' => cases x <;> simp only [objLe, IsO] at h2
      | xarr n' e' c' =>
        cases x <;> simp only [objLe, IsO] at h2
        obtain ⟨rfl, rfl, h2⟩ := h2
        obtain ⟨h3, h0, h4⟩ := hR
        refine ⟨by rw [muS_some h1]; exact h3, by rw [muS_some h1]; exact h0, ?_⟩
        rw [muS_some h1]
        cases hq : (μ o).b with
        | none => rw [hq] at h4; exact h4
        | some b =>
          rw [hq] at h4
          obtain ⟨h5, C, T, h6, h7, h8⟩ := h4
          refine ⟨h5, C, T, h6, h7, fun i hi j hj => ?_⟩
          obtain ⟨x, h9, h10⟩ := h8 i hi j hj
          exact ⟨x, h9, IsX_RelX (h2 i hi j hj) h10⟩
    · simp only [Nat.zero_add] at h1
      cases x' with
      | dead => trivial
      | var cs => exact h2.elim
      | fro n e c => exact h2.elim
      | arr n e c =>
        have hn : n = 0 := h2
        subst hn
        have e1 : muS σ μ t.H k = ⟨none, 0, 0, e, fun _ _ => none⟩ := by unfold muS; rw [h1, hk]
        refine ⟨by rw [e1], ?_⟩
        rw [e1]
      | xarr n e c =>
        have hn : n = 0 := h2
        subst hn
        have e1 : muS σ μ t.H k = ⟨none, 0, 0, e, fun _ _ => none⟩ := by unfold muS; rw [h1, hk]
        refine ⟨by rw [e1], fun i j v hv => (by rw [e1] at hv; cases hv), ?_⟩
        rw [e1]
  · obtain ⟨o, h3, h4⟩ := own_le hH hb1
    obtain ⟨o', h5, h6⟩ := own_le hH hb2
    exact h.seps o o' b (fun e => hne (hf.inj k k' o (live_alive hb1.live) (live_alive hb2.live) h3 (e ▸ h5))) h4 h6
  · obtain ⟨o, h3, h4⟩ := own_le hH hb1
    exact h.owns o b h4

/-! ### Other names -/

mutual
theorem Rel_ren {μ' : Nat → OI} {ρ : List Nat} : ∀ (a : AV) (y : Value), (∀ k, ment k a = true → μ' (ρ.getD k 0) = μ k) → Rel S μ w a y → Rel S μ' w (ren ρ a) y
  | .v _, _, _, h => h
  | .any, _, _, _ => trivial
  | .agg cs, y, hm, h => by
    obtain ⟨vs, rfl, h⟩ := h
    exact ⟨vs, rfl, RelL_ren cs vs (fun o ho => hm o (by simpa [ment] using ho)) h⟩
  | .tup cs, y, hm, h => by
    obtain ⟨vs, rfl, h⟩ := h
    exact ⟨vs, rfl, RelL_ren cs vs (fun o ho => hm o (by simpa [ment] using ho)) h⟩
  | .fn f cs, y, hm, h => by
    obtain ⟨vs, rfl, h⟩ := h
    exact ⟨vs, rfl, RelL_ren cs vs (fun o ho => hm o (by simpa [ment] using ho)) h⟩
  | .sl n esz cell, y, _, h => h
  | .lit n esz cell, y, _, h => h
  | .hdr x n esz cell, y, _, h => h
  | .el n esz cell i off, y, _, h => h
  | .ptr o off, y, hm, h => by have := hm o (by simp [ment]); unfold ren Rel at *; rw [this]; exact h
  | .osl o lo n, y, hm, h => by have := hm o (by simp [ment]); unfold ren Rel at *; rw [this]; exact h
  | .oel o i off, y, hm, h => by have := hm o (by simp [ment]); unfold ren Rel at *; rw [this]; exact h
  | .xsl o i j n, y, hm, h => by have := hm o (by simp [ment]); unfold ren Rel at *; rw [this]; exact h
  | .olit n cs, y, hm, h => by
    obtain ⟨b, c, T, fr, h1, h2, h3, h4⟩ := h
    exact ⟨b, c, T, fr, h1, h2, h3, RelL_ren cs _ (fun o ho => hm o (by simpa [ment] using ho)) h4⟩
theorem RelL_ren {μ' : Nat → OI} {ρ : List Nat} : ∀ (as : List AV) (ys : List Value), (∀ k, mentL k as = true → μ' (ρ.getD k 0) = μ k) → RelL S μ w as ys → RelL S μ' w (renL ρ as) ys
  | [], _, _, h => h
  | a :: as, ys, hm, h => by
    obtain ⟨y, r, rfl, h1, h2⟩ := h
    exact ⟨y, r, rfl, Rel_ren a y (fun o ho => hm o (by simp [mentL, ho])) h1, RelL_ren as r (fun o ho => hm o (by simp [mentL, ho])) h2⟩
end

theorem ment_ren {ρ : List Nat} {m N k : Nat} (hρ : ∀ i, i < m → ρ.getD i 0 < N) (hk : N ≤ k) : (∀ a : AV, below m a = true → ment k (ren ρ a) = false) ∧ ∀ l : List AV, belowL m l = true → mentL k (renL ρ l) = false := by
  have ptr : ∀ o, Nat.blt o m = true → Nat.beq k (ρ.getD o 0) = false := fun o h => by
    have := hρ o (blt_iff.1 h)
    cases hb : Nat.beq k (ρ.getD o 0)
    · rfl
    · have := beq_iff.1 hb; omega
  exact ⟨go1 ptr, go2 ptr⟩
  where
  go1 {ρ : List Nat} {m k : Nat} (ptr : ∀ o, Nat.blt o m = true → Nat.beq k (ρ.getD o 0) = false) : ∀ (a : AV), below m a = true → ment k (ren ρ a) = false
    | .v _, _ => rfl
    | .any, _ => rfl
    | .agg cs, h => go2 ptr cs h
    | .tup cs, h => go2 ptr cs h
    | .fn _ cs, h => go2 ptr cs h
    | .sl _ _ _, _ => rfl
    | .lit _ _ _, _ => rfl
    | .hdr _ _ _ _, _ => rfl
    | .el _ _ _ _ _, _ => rfl
    | .ptr o _, h => ptr o h
    | .osl o _ _, h => ptr o h
    | .oel o _ _, h => ptr o h
    | .xsl o _ _ _, h => ptr o h
    | .olit _ cs, h => go2 ptr cs h
  go2 {ρ : List Nat} {m k : Nat} (ptr : ∀ o, Nat.blt o m = true → Nat.beq k (ρ.getD o 0) = false) : ∀ (l : List AV), belowL m l = true → mentL k (renL ρ l) = false
    | [], _ => rfl
    | a :: l, h => by
      simp only [belowL, Bool.and_eq_true] at h
      simp only [renL, mentL, Bool.or_eq_false_iff]
      exact ⟨go1 ptr a h.1, go2 ptr l h.2⟩

/-- How many new names there are up to one. -/
def fcnt (σ : Sg) : Nat → Nat
  | 0 => 0
  | k + 1 => fcnt σ k + (if σ.at k = none then 1 else 0)

theorem fcnt_mono (σ : Sg) : ∀ {j k : Nat}, j ≤ k → fcnt σ j ≤ fcnt σ k
  | j, 0, h => by have : j = 0 := by omega
                  subst this; exact Nat.le_refl _
  | j, k + 1, h => by
    rcases Nat.lt_or_ge j (k + 1) with h1 | h1
    · exact Nat.le_trans (fcnt_mono σ (Nat.le_of_lt_succ h1)) (Nat.le_add_right _ _)
    · have : j = k + 1 := by omega
      subst this; exact Nat.le_refl _

theorem rho_get {σ : Sg} {n0 : Nat} : ∀ (m k i : Nat), i < m → (rho σ (n0 + fcnt σ k) k m).getD i 0 = match σ.at (k + i) with
    | some o => o
    | none => n0 + fcnt σ (k + i)
  | 0, _, _, h => by omega
  | m + 1, k, i, h => by
    have step : ∀ j, (rho σ (n0 + fcnt σ k) k (m + 1)).getD (j + 1) 0 = (rho σ (n0 + fcnt σ (k + 1)) (k + 1) m).getD j 0 := fun j => by
      simp only [rho, fcnt]
      cases hk : σ.at k with
      | some o => simp
      | none => simp [Nat.add_assoc]
    cases i with
    | zero =>
      simp only [rho, Nat.add_zero]
      cases hk : σ.at k <;> simp
    | succ i =>
      rw [step, rho_get m (k + 1) i (by omega), show k + 1 + i = k + (i + 1) by omega]

theorem layH_spec {ρ : List Nat} {σ : Sg} {n0 m : Nat} (hlt : ∀ k o, σ.at k = some o → o < n0) (hinj : ∀ i j, i < m → j < m → ρ.getD i 0 = ρ.getD j 0 → i = j) (hρ : ∀ i, i < m → ρ.getD i 0 = match σ.at i with
    | some o => o
    | none => n0 + fcnt σ i) : ∀ (xs : List AObj) (k : Nat) (H : List AObj), k + xs.length ≤ m → H.length = n0 + fcnt σ k →
      H.length ≤ (layH ρ H k xs).length ∧ (∀ i x, xs[i]? = some x → (layH ρ H k xs)[ρ.getD (k + i) 0]? = some (renO ρ x)) ∧ ∀ o, (∀ i, i < xs.length → ρ.getD (k + i) 0 ≠ o) → (layH ρ H k xs)[o]? = H[o]?
  | [], k, H, _, _ => ⟨Nat.le_refl _, fun i x h => by simp at h, fun o _ => rfl⟩
  | x :: xs, k, H, hm, hl => by
    simp only [List.length_cons] at hm
    let H' := bif Nat.blt (ρ.getD k 0) H.length then H.set (ρ.getD k 0) (renO ρ x) else H ++ [renO ρ x]
    have hk := hρ k (by omega)
    have key : H'.length = n0 + fcnt σ (k + 1) ∧ H.length ≤ H'.length ∧ H'[ρ.getD k 0]? = some (renO ρ x) ∧ ∀ o, ρ.getD k 0 ≠ o → H'[o]? = H[o]? := by
      cases hs : σ.at k with
      | some o =>
        rw [hs] at hk
        simp only at hk
        have ho := hlt k o hs
        have e : Nat.blt (ρ.getD k 0) H.length = true := blt_iff.2 (by omega)
        have e' : H' = H.set (ρ.getD k 0) (renO ρ x) := by show (bif _ then _ else _) = _; rw [e]; rfl
        rw [e']
        refine ⟨by simp [fcnt, hs, hl], by simp, List.getElem?_set_self (by omega), fun o' ho' => List.getElem?_set_ne ho'⟩
      | none =>
        rw [hs] at hk
        simp only at hk
        have e : Nat.blt (ρ.getD k 0) H.length = false := by
          cases hb : Nat.blt (ρ.getD k 0) H.length
          · rfl
          · have := blt_iff.1 hb; omega
        have e' : H' = H ++ [renO ρ x] := by show (bif _ then _ else _) = _; rw [e]; rfl
        rw [e']
        refine ⟨by simp [fcnt, hs, hl]; omega, by simp, ?_, fun o' ho' => ?_⟩
        · rw [List.getElem?_append_right (by omega), hk, hl]; simp
        · by_cases h : o' < H.length
          · rw [List.getElem?_append_left h]
          · rw [List.getElem?_append_right (by omega), List.getElem?_eq_none (by simp; omega), List.getElem?_eq_none (by omega)]
    obtain ⟨h1, h2, h3, h4⟩ := key
    obtain ⟨h5, h6, h7⟩ := layH_spec hlt hinj hρ xs (k + 1) H' (by omega) h1
    have hdef : layH ρ H k (x :: xs) = layH ρ H' (k + 1) xs := rfl
    rw [hdef]
    refine ⟨Nat.le_trans h2 h5, fun i y hi => ?_, fun o ho => ?_⟩
    · cases i with
      | zero =>
        simp at hi; subst hi
        rw [Nat.add_zero, h7 _ fun i hi e => ?_]
        · exact h3
        · have := hinj (k + 1 + i) k (by omega) (by omega) e; omega
      | succ i =>
        simp at hi
        have := h6 i y hi
        rwa [show k + 1 + i = k + (i + 1) by omega] at this
    · rw [h7 o fun i hi => by have := ho (i + 1) (by simp; omega); rwa [show k + (i + 1) = k + 1 + i by omega] at this]
      exact h4 o (by have := ho 0 (by simp); simpa using this)

theorem renO_live {ρ : List Nat} {x : AObj} : LiveAt [renO ρ x] 0 ↔ LiveAt [x] 0 := by cases x <;> rfl

end

section
variable {P : Program}

/-- Objects of which some stay as they are from now on. -/
def FrzH (H H1 : List AObj) : Prop := H1.length = H.length ∧ ∀ o : Nat, H1[o]? = H[o]? ∨ ∃ n e c, H[o]? = some (AObj.arr n e c) ∧ H1[o]? = some (AObj.fro n e c)
theorem FrzH.refl (H : List AObj) : FrzH H H := ⟨rfl, fun _ => .inl rfl⟩
theorem FrzH.trans {H H1 H2 : List AObj} (h : FrzH H H1) (k : FrzH H1 H2) : FrzH H H2 := ⟨k.1.trans h.1, fun o => by
  rcases k.2 o with k1 | ⟨n, e, c, k1, k2⟩
  · rw [k1]; exact h.2 o
  · rcases h.2 o with h1 | ⟨n', e', c', h1, h2⟩
    · exact .inr ⟨n, e, c, by rw [← h1]; exact k1, k2⟩
    · rw [h2] at k1; cases k1⟩
theorem frzO_spec (H : List AObj) (o : Nat) : FrzH H (frzO H o) := by
  unfold frzO
  split
  · rename_i n e c hl
    have hl := H_getD hl (by simp)
    refine ⟨by simp, fun k => ?_⟩
    by_cases hk : k = o
    · subst hk
      exact .inr ⟨n, e, c, hl, List.getElem?_set_self (List.getElem?_eq_some_iff.1 hl).1⟩
    · exact .inl (List.getElem?_set_ne (Ne.symm hk))
  · exact FrzH.refl H
theorem frz_fold {f : List AObj → AV → List AObj} (hf : ∀ H a, FrzH H (f H a)) : ∀ (as : List AV) (H : List AObj), FrzH H (as.foldl f H)
  | [], H => FrzH.refl H
  | a :: as, H => (hf H a).trans (frz_fold hf as _)
theorem frzA0_spec (H : List AObj) (a : AV) : FrzH H (frzA0 H a) := by
  unfold frzA0
  split
  · exact frzO_spec H _
  · exact FrzH.refl H
theorem frzA_spec (H : List AObj) (a : AV) : FrzH H (frzA H a) := by
  unfold frzA
  split
  · exact frz_fold frzA0_spec _ H
  · exact frzA0_spec H _
theorem FrzH.live {H H1 : List AObj} (h : FrzH H H1) {o : Nat} (hl : LiveAt H1 o) : LiveAt H o := by
  rcases h.2 o with h1 | ⟨n, e, c, h1, h2⟩
  · unfold LiveAt at hl ⊢; rw [← h1]; exact hl
  · unfold LiveAt at hl; rw [h2] at hl; exact hl.elim

section
variable {S : Nat → Prop} {μ : Nat → OI} {w : World}
theorem FrzH.own {H H1 : List AObj} (h : FrzH H H1) {o b : Nat} (hb : Own μ H1 o b) : Own μ H o b := by
  obtain ⟨x, h1, h2⟩ := hb
  rcases h.2 o with h3 | ⟨n, e, c, h3, h4⟩
  · exact ⟨x, by rw [← h3]; exact h1, h2⟩
  · rw [h4] at h1; cases h1; exact h2.elim
def FrzS (S : Nat → Prop) (μ : Nat → OI) (H H1 : List AObj) : Nat → Prop := fun b => S b ∨ ∃ o n e c, H[o]? = some (AObj.arr n e c) ∧ H1[o]? = some (AObj.fro n e c) ∧ (μ o).b = some b

theorem FrzH.ok {H H1 : List AObj} (hf : FrzH H H1) (h : HOK S μ w H) : HOK (FrzS S μ H H1) μ w H1 where
  obj o x ho := by
    rcases hf.2 o with h1 | ⟨n, e, c, h1, h2⟩
    · rw [h1] at ho
      exact ObjRel_mono (fun _ hb => .inl hb) (fun _ _ => rfl) rfl (fun _ _ _ _ => rfl) (fun _ _ => rfl) (h.obj o x ho)
    · rw [h2] at ho; cases ho
      obtain ⟨h3, h4⟩ := h.obj o _ h1
      refine ⟨h3, ?_⟩
      cases hb : (μ o).b with
      | none => rw [hb] at h4; exact h4
      | some b =>
        rw [hb] at h4
        obtain ⟨h5, cs, T, h6, h7, h8⟩ := h4
        exact ⟨h5, .inr ⟨o, n, e, c, h1, h2, hb⟩, cs, T, (0, 0), h6, fun i hi j hj => by
          obtain ⟨x, h9, h10⟩ := h8 i hi j hj
          exact ⟨x, h9, RelI_mono (fun _ hb => .inl hb) (fun _ _ => rfl) _ _ h10⟩⟩
  ids o cs ho k hk := by
    rcases hf.2 o with h1 | ⟨n, e, c, h1, h2⟩
    · rw [h1] at ho
      exact h.ids o cs ho k (by rw [← hf.1]; exact hk)
    · rw [h2] at ho; cases ho
  seps o o' b hne h1 h2 := h.seps o o' b hne (hf.own h1) (hf.own h2)
  owns o b hb := by
    obtain ⟨h1, h2⟩ := h.owns o b (hf.own hb)
    refine ⟨fun hs => ?_, h2⟩
    rcases hs with hs | ⟨o', n, e, c, h3, h4, h5⟩
    · exact h1 hs
    · have hne : o ≠ o' := fun heq => by
        subst heq
        obtain ⟨x, h6, h7⟩ := hb
        rw [h4] at h6; cases h6; exact h7
      exact h.seps o o' b hne (hf.own hb) ⟨_, h3, h5⟩
  inS b hb := by
    rcases hb with hb | ⟨o, n, e, c, h3, h4, h5⟩
    · exact h.inS b hb
    · exact (h.owns o b ⟨_, h3, h5⟩).2
  gl := h.gl.mono (fun _ h => .inl h) fun _ _ => rfl

end

/-- A callee that may keep what it is handed. -/
theorem aImf_sound {f : FuncId} {X : Type} {enc : X → List AV} {pre : X → Prop} {res : X → AV} (hs : ∀ x : X, pre x → PureAt P f (enc x) (res x)) {args : List AV} {H : List AObj} {K : AV → List AObj → Prop}
    (h : aImf X enc pre res args H K) : ACalls P f args H K := fun S μ w vals hok hids hrel => by
  unfold aImf at h
  split at h
  rename_i q vs hv
  obtain ⟨hq, h⟩ := need_elim h
  obtain ⟨him, x, hle, hpre, h⟩ := bif_true h
  obtain ⟨hir, hk⟩ := bif_true h
  have hF : FrzH H (frzL H args) := frz_fold frzA_spec args H
  have hok1 := hF.ok hok
  have hrel1 : RelL (FrzS S μ H (frzL H args)) μ w args vals := RelL_mono (fun _ hb => .inl hb) (fun _ _ => rfl) _ _ (fun _ _ => rfl) hrel
  have hv1 := viewL_sound (f := thaw1 (frzL H args)) (RR := Rel (FrzS S μ H (frzL H args)) μ w) (fun a y hq hr => thaw1_sound hok1 hq hr) (RelL_pairs hrel1).1 (RelL_pairs hrel1).2 (by rw [hv]; exact hq)
  rw [hv] at hv1
  refine (hs x hpre (FrzS S μ H (frzL H args)) w _ hok1.inS hok1.gl (frLe_plain (μ := mu0) (fun _ => rfl) hle (immL_rel him hv1))).mono fun e w' he => ?_
  obtain ⟨y, S', rfl, h1, h2, h3, h4, h5⟩ := he
  refine ⟨y, res x, frzL H args, S', μ, rfl, hk, ⟨fun b hb => h2 b (.inl hb), fun b hb => ?_, fun _ _ => rfl, by rw [hF.1]; exact Nat.le_refl _, (Kept.refl μ H w).ext h1, fun o b hb => .inr ⟨o, hF.own hb⟩, hok1.ext h1 h2 (fun b hb => h3 b hb) h4⟩, fun k _ => imm_ment hir, imm_rel hir h5⟩
  rcases h3 b hb with h6 | h6
  · rcases h6 with h6 | ⟨o, n, e, c, h7, _, h8⟩
    · exact .inl h6
    · exact .inr (.inr ⟨o, _, h7, h8⟩)
  · exact .inr (.inl h6)

/-- A callee that works on some of the caller's objects. -/
theorem aEff_sound {f : FuncId} {X Y : Type} {tgt : X → St} {pre : X → Prop} {post : X → Y → Prop} {out : X → Y → AV × List AObj} (hs : SoundE P f X tgt pre Y post out) {args : List AV} {H : List AObj} {K : AV → List AObj → Prop}
    (h : aEff X tgt pre Y post out args H K) : ACalls P f args H K := fun S μ w vals hok hids hrel => by
  obtain ⟨x, hpre, hle, hK⟩ := h
  generalize hσd : sigma 0 ⟨args, H⟩ (tgt x) = σ at hK
  have hle' : St.leS 0 σ ⟨args, H⟩ (tgt x) := by rw [← hσd]; exact hle
  unfold St.leS at hle'
  obtain ⟨hfb, hfr, hH⟩ := bif_true hle'
  have hf := fit_of hfb
  have hok0 : HOK S (muS σ μ (tgt x).H) w (tgt x).H := HOK.le (s := ⟨args, H⟩) (t := tgt x) hok hf hH
  have hrel0 : RelL S (muS σ μ (tgt x).H) w (tgt x).fr vals := frLeT_sound (H := H) hok (fun _ _ h => muS_some h) (fun _ h => muS_none h) hfr hrel
  refine (hs x hpre S _ w vals hok0 hrel0).mono fun e w' he => ?_
  obtain ⟨v, y, S', μ', rfl, hpost, hevo, hR⟩ := he
  have hK := hK y hpost
  generalize hout : out x y = q at hK hevo hR
  obtain ⟨r, H1⟩ := q
  simp only at hK hevo hR
  obtain ⟨hb, hK⟩ := bif_true hK
  simp only [Bool.and_eq_true] at hb
  obtain ⟨⟨hbr, hbH⟩, hnd⟩ := hb
  have alive : ∀ i o, σ.at i = some o → deadAt (tgt x).H i = false := fun i o h => noDead_at hnd (hf.lt i o h).1
  generalize hρd : rho σ H.length 0 H1.length = ρ at hK
  have hlt : ∀ k o, σ.at k = some o → o < H.length := fun k o h => (hf.lt k o h).2.1
  have hρ : ∀ i, i < H1.length → ρ.getD i 0 = match σ.at i with | some o => o | none => H.length + fcnt σ i := fun i hi => by
    have := rho_get (σ := σ) (n0 := H.length) H1.length 0 i hi
    simp only [fcnt, Nat.add_zero, Nat.zero_add] at this
    rw [← hρd]; exact this
  have hinj : ∀ i j, i < H1.length → j < H1.length → ρ.getD i 0 = ρ.getD j 0 → i = j := fun i j hi hj he => by
    rw [hρ i hi, hρ j hj] at he
    cases h1 : σ.at i with
    | some o =>
      rw [h1] at he
      cases h2 : σ.at j with
      | some o' => rw [h2] at he; simp only at he; subst he; exact hf.inj i j o (alive i o h1) (alive j o h2) h1 h2
      | none => rw [h2] at he; simp only at he; have := hlt i o h1; omega
    | none =>
      rw [h1] at he
      cases h2 : σ.at j with
      | some o' => rw [h2] at he; simp only at he; have := hlt j o' h2; omega
      | none =>
        rw [h2] at he
        simp only at he
        have hc : ∀ a b, a < b → σ.at a = none → fcnt σ a < fcnt σ b := fun a b hab ha => by
          have := fcnt_mono σ (show a + 1 ≤ b from hab)
          simp only [fcnt, ha, if_true] at this
          omega
        rcases Nat.lt_trichotomy i j with h | h | h
        · have := hc i j h h1; omega
        · exact h
        · have := hc j i h h2; omega
  obtain ⟨hl1, hl2, hl3⟩ := layH_spec hlt hinj hρ H1 0 H (by omega) (by simp [fcnt])
  simp only [Nat.zero_add] at hl2 hl3
  generalize hH2 : layH ρ H 0 H1 = H2 at hK hl1 hl2 hl3
  -- what the caller's names stand for
  let μ2 : Nat → OI := fun o => if o < H.length then μ o else open Classical in if h : ∃ k, k < H1.length ∧ ρ.getD k 0 = o then μ' (Classical.choose h) else ⟨none, 0, 0, 0, fun _ _ => none⟩
  have hμold : ∀ o, o < H.length → μ2 o = μ o := fun o ho => if_pos ho
  have hm1 : ∀ k, σ.at k = some k → True := fun _ _ => trivial
  have hμρ : ∀ k, k < H1.length → μ2 (ρ.getD k 0) = μ' k := fun k hk => by
    cases h1 : σ.at k with
    | some o =>
      have e : ρ.getD k 0 = o := by rw [hρ k hk, h1]
      rw [e, hμold o (hlt k o h1), hevo.mu k (hf.lt k o h1).1, muS_some h1]
    | none =>
      have e : ρ.getD k 0 = H.length + fcnt σ k := by rw [hρ k hk, h1]
      show (if ρ.getD k 0 < H.length then _ else _) = _
      rw [if_neg (by omega)]
      have hex : ∃ k', k' < H1.length ∧ ρ.getD k' 0 = ρ.getD k 0 := ⟨k, hk, rfl⟩
      rw [dif_pos hex]
      obtain ⟨h2, h3⟩ := Classical.choose_spec hex
      rw [hinj _ _ h2 hk h3]
  -- an object of the caller's: one that the callee had or made, or one that it never saw
  have part : ∀ o z, H2[o]? = some z → (∃ k z0, k < H1.length ∧ H1[k]? = some z0 ∧ ρ.getD k 0 = o ∧ z = renO ρ z0) ∨ ((∀ k, k < H1.length → ρ.getD k 0 ≠ o) ∧ H[o]? = some z) := fun o z hz => by
    by_cases hex : ∃ k, k < H1.length ∧ ρ.getD k 0 = o
    · obtain ⟨k, hk, hko⟩ := hex
      obtain ⟨z0, hz0⟩ : ∃ z0, H1[k]? = some z0 := ⟨_, List.getElem?_eq_getElem hk⟩
      have := hl2 k z0 hz0
      rw [hko, hz] at this
      cases this
      exact .inl ⟨k, z0, hk, hz0, hko, rfl⟩
    · have hno : ∀ k, k < H1.length → ρ.getD k 0 ≠ o := fun k hk he => hex ⟨k, hk, he⟩
      rw [hl3 o hno] at hz
      exact .inr ⟨hno, hz⟩
  have ownPart : ∀ o b, Own μ2 H2 o b → (∃ k, k < H1.length ∧ ρ.getD k 0 = o ∧ Own μ' H1 k b) ∨ ((∀ k, k < H1.length → ρ.getD k 0 ≠ o) ∧ Own μ H o b) := fun o b hl => by
    obtain ⟨z, hz, hb⟩ := hl
    rcases part o z hz with ⟨k, z0, hk, hz0, hko, rfl⟩ | ⟨h1, h2⟩
    · refine .inl ⟨k, hk, hko, z0, hz0, ?_⟩
      rw [← hko, hμρ k hk] at hb
      cases z0 <;> exact hb
    · refine .inr ⟨h1, z, h2, ?_⟩
      rw [hμold o (List.getElem?_eq_some_iff.1 h2).1] at hb
      exact hb
  -- the callee's blocks were the caller's
  have blk : ∀ b, Blk (muS σ μ (tgt x).H) (tgt x).H b → ∃ k o, k < H1.length ∧ ρ.getD k 0 = o ∧ Own μ H o b := fun b ⟨k, hlk⟩ => by
    obtain ⟨o, h1, h2⟩ := own_le hH hlk
    have hk1 : k < H1.length := Nat.lt_of_lt_of_le (hf.lt k o h1).1 hevo.len
    exact ⟨k, o, hk1, by rw [hρ k hk1, h1], h2⟩
  have blkH : ∀ b, Blk (muS σ μ (tgt x).H) (tgt x).H b → Blk μ H b := fun b hb => by obtain ⟨_, o, _, _, h1⟩ := blk b hb; exact ⟨o, h1⟩
  have untouched : ∀ o b, (∀ k, k < H1.length → ρ.getD k 0 ≠ o) → Own μ H o b → ¬ Blk (muS σ μ (tgt x).H) (tgt x).H b := fun o b hno hl hB => by
    obtain ⟨k, o', hk, hko, h1⟩ := blk b hB
    exact hok.seps o o' b (fun e => hno k hk (by rw [hko, e])) hl h1
  have hSb : ∀ b, S b → w'.heap[b]? = w.heap[b]? := fun b hb => hevo.kept.block b (hok.inS b hb) fun hB => by obtain ⟨o, h1⟩ := blkH b hB; exact (hok.owns o b h1).1 hb
  have hρ2 : ∀ i, i < H1.length → ρ.getD i 0 < H2.length := fun i hi => by
    obtain ⟨z0, hz0⟩ : ∃ z0, H1[i]? = some z0 := ⟨_, List.getElem?_eq_getElem hi⟩
    exact (List.getElem?_eq_some_iff.1 (hl2 i z0 hz0)).1
  have bm : ∀ (cs : List AV), belowL H1.length cs = true → ∀ k, mentL k cs = true → k < H1.length := fun cs hc k hk => by
    rcases Nat.lt_or_ge k H1.length with h | h
    · exact h
    · rw [(below_ment h).2 cs hc] at hk; cases hk
  refine ⟨v, ren ρ r, H2, S', μ2, rfl, hK, ?_, fun k hk => (ment_ren hρ2 hk).1 r hbr, Rel_ren r v (fun k hk => hμρ k (by
    rcases Nat.lt_or_ge k H1.length with h | h
    · exact h
    · rw [(below_ment h).1 r hbr] at hk; cases hk)) hR⟩
  exact {
    sub := hevo.sub
    new := fun b hb => by
      rcases hevo.new b hb with h | h | h
      · exact .inl h
      · exact .inr (.inl h)
      · exact .inr (.inr (blkH b h))
    mu := hμold
    len := hl1
    kept := ⟨hevo.kept.os, hevo.kept.tape, hevo.kept.output, hevo.kept.size, fun b hb hn => hevo.kept.block b hb fun hB => hn (blkH b hB)⟩
    mine := fun o b hb => by
      rcases ownPart o b hb with ⟨k, hk, rfl, hlk⟩ | ⟨hno, hlo⟩
      · rcases hevo.mine k b hlk with h | h
        · exact .inl h
        · exact .inr (blkH b h)
      · exact .inr ⟨o, hlo⟩
    hok := {
      obj := fun o z hz => by
        rcases part o z hz with ⟨k, z0, hk, hz0, rfl, rfl⟩ | ⟨hno, hz⟩
        · have hO := hevo.hok.obj k z0 hz0
          cases z0 with
          | dead => trivial
          | var cs =>
            obtain ⟨b, c, T, h1, h2, h3, h4⟩ := hO
            exact ⟨b, c, T, by rw [hμρ k hk]; exact h1, h2, RelL_ren cs _ (fun j hj => hμρ j (bm cs (belowH_var hbH hz0) j hj)) h3, h4⟩
          | arr n e c => obtain ⟨h1, h2⟩ := hO; exact ⟨by rw [hμρ k hk]; exact h1, by rw [hμρ k hk]; exact h2⟩
          | fro n e c => obtain ⟨h1, h2⟩ := hO; exact ⟨by rw [hμρ k hk]; exact h1, by rw [hμρ k hk]; exact h2⟩
          | xarr n e c => obtain ⟨h1, h0, h2⟩ := hO; exact ⟨by rw [hμρ k hk]; exact h1, by rw [hμρ k hk]; exact h0, by rw [hμρ k hk]; exact h2⟩
        · have hol : o < H.length := (List.getElem?_eq_some_iff.1 hz).1
          refine ObjRel_mono hevo.sub hSb (hμold o hol) (fun cs hcs j hj => hμold j ?_) (fun b hb => ?_) (hok.obj o z hz)
          · subst hcs
            rcases Nat.lt_or_ge j H.length with h | h
            · exact h
            · rw [hok.ids o cs hz j h] at hj; cases hj
          · have hlo : Own μ H o b := ⟨z, hz, hb⟩
            exact hevo.kept.block b (hok.owns o b hlo).2 (untouched o b hno hlo)
      ids := fun o cs hz k hk => by
        rcases part o _ hz with ⟨j, z0, hj, hz0, rfl, he⟩ | ⟨hno, hz⟩
        · cases z0 <;> simp only [renO, AObj.var.injEq, reduceCtorEq] at he
          subst he
          exact (ment_ren hρ2 hk).2 _ (belowH_var hbH hz0)
        · exact hok.ids o cs hz k (Nat.le_trans hl1 hk)
      seps := fun o o' b hne hb hb' => by
        rcases ownPart o b hb with ⟨k, hk, rfl, hlk⟩ | ⟨hno, hlo⟩
        · rcases ownPart o' b hb' with ⟨k', hk', rfl, hlk'⟩ | ⟨hno', hlo'⟩
          · exact hevo.hok.seps k k' b (fun e => hne (by rw [e])) hlk hlk'
          · rcases hevo.mine k b hlk with h | h
            · have := (hok.owns o' b hlo').2; omega
            · exact untouched o' b hno' hlo' h
        · rcases ownPart o' b hb' with ⟨k', hk', rfl, hlk'⟩ | ⟨hno', hlo'⟩
          · rcases hevo.mine k' b hlk' with h | h
            · have := (hok.owns o b hlo).2; omega
            · exact untouched o b hno hlo h
          · exact hok.seps o o' b hne hlo hlo'
      owns := fun o b hb => by
        rcases ownPart o b hb with ⟨k, hk, rfl, hlk⟩ | ⟨hno, hlo⟩
        · exact hevo.hok.owns k b hlk
        · obtain ⟨h1, h2⟩ := hok.owns o b hlo
          refine ⟨fun hs' => ?_, Nat.lt_of_lt_of_le h2 hevo.kept.size⟩
          rcases hevo.new b hs' with h | h | h
          · exact h1 h
          · omega
          · exact untouched o b hno hlo h
      inS := hevo.hok.inS
      gl := hevo.hok.gl } }

theorem thaw0_ment {H : List AObj} {k : Nat} {a : AV} (h : ment k a = false) : ment k (thaw0 H a).2 = false := by
  unfold thaw0
  split
  · split
    · rfl
    · exact h
  · exact h
theorem viewL_ment {f : AV → List Prop × AV} {k : Nat} (hf : ∀ a, ment k a = false → ment k (f a).2 = false) : ∀ {as : List AV}, mentL k as = false → mentL k (viewL f as).2 = false
  | [], _ => rfl
  | a :: as, h => by
    simp only [mentL, Bool.or_eq_false_iff] at h
    simp only [viewL, mentL, Bool.or_eq_false_iff]
    exact ⟨hf a h.1, viewL_ment hf h.2⟩
theorem thaw1_ment {H : List AObj} {k : Nat} {a : AV} (h : ment k a = false) : ment k (thaw1 H a).2 = false := by
  unfold thaw1
  split
  · simp only [ment] at h ⊢
    exact viewL_ment (fun a h => thaw0_ment h) h
  · exact thaw0_ment h

/-- A callee that works on some of the caller's objects and is handed others for good. -/
theorem aEfz_sound {f : FuncId} {X Y : Type} {tgt : X → St} {pre : X → Prop} {post : X → Y → Prop} {out : X → Y → AV × List AObj} (hs : SoundE P f X tgt pre Y post out) {args : List AV} {H : List AObj} {K : AV → List AObj → Prop}
    (h : aEfz X tgt pre Y post out args H K) : ACalls P f args H K := fun S μ w vals hok hids hrel => by
  unfold aEfz at h
  split at h
  rename_i q vs hv
  obtain ⟨hq, h⟩ := need_elim h
  have hF : FrzH H (frzL H args) := frz_fold frzA_spec args H
  have hok1 := hF.ok hok
  have hrel1 : RelL (FrzS S μ H (frzL H args)) μ w args vals := RelL_mono (fun _ hb => .inl hb) (fun _ _ => rfl) _ _ (fun _ _ => rfl) hrel
  have hv1 := viewL_sound (f := thaw1 (frzL H args)) (RR := Rel (FrzS S μ H (frzL H args)) μ w) (fun a y hq hr => thaw1_sound hok1 hq hr) (RelL_pairs hrel1).1 (RelL_pairs hrel1).2 (by rw [hv]; exact hq)
  have hids1 : ∀ k, (frzL H args).length ≤ k → mentL k vs = false := fun k hk => by
    have := viewL_ment (f := thaw1 (frzL H args)) (fun a h => thaw1_ment h) (hids k (by rw [← hF.1]; exact hk))
    rw [hv] at this
    exact this
  rw [hv] at hv1
  refine (aEff_sound hs h _ μ w vals hok1 hids1 hv1).mono fun e w' he => ?_
  obtain ⟨y, av, H', S', μ', rfl, hk, hevo, hmt, hR⟩ := he
  have blk : ∀ b, Blk μ (frzL H args) b → Blk μ H b := fun b ⟨o, h1⟩ => ⟨o, hF.own h1⟩
  refine ⟨y, av, H', S', μ', rfl, hk, ⟨fun b hb => hevo.sub b (.inl hb), fun b hb => ?_, fun o ho => hevo.mu o (by rw [hF.1]; exact ho), by rw [← hF.1]; exact hevo.len,
    ⟨hevo.kept.os, hevo.kept.tape, hevo.kept.output, hevo.kept.size, fun b hb hn => hevo.kept.block b hb fun h => hn (blk b h)⟩, fun o b hb => (hevo.mine o b hb).imp id (blk b), hevo.hok⟩, hmt, hR⟩
  rcases hevo.new b hb with h6 | h6 | h6
  · rcases h6 with h6 | ⟨o, n, e, c, h7, _, h8⟩
    · exact .inl h6
    · exact .inr (.inr ⟨o, _, h7, h8⟩)
  · exact .inr (.inl h6)
  · exact .inr (.inr (blk b h6))

end
end Cg

/-
  From the machine's operations to the model's weakest preconditions. No condition.
-/
namespace Cg
open Go

/-- A state of the model that fits one of the machine's. -/
def G (E : Ent) (st : St) (a : Act) (w : World) : Prop := ∃ S μ, Good E st a w S μ

section
variable {P : Program} {E : Ent} {st : St} {a : Act} {w : World}

theorem wp_of_q {S : Nat → Prop} {μ : Nat → OI} (g : Good E st a w S μ) (o : Oper) {v : AV} {next : Act → World → Prop} {Q : Exit → Act → World → Prop} (hq : QRun P S μ a w o v) (hm : ∀ k, st.H.length ≤ k → ment k v = false)
    (hn : ∀ a' w', G E (st.put o.dst v) a' w' → next a' w') : o.wp P a w next Q := by
  have fin : ∀ y w' S', After S μ w v y w' S' → next (a.put o.dst y) w' := fun y w' S' ⟨h1, h2, h3, h4, h5⟩ => hn _ _ ⟨S', μ, (g.ext h1 h2 h3 h4).put o.dst h5 hm⟩
  unfold Oper.wp
  rcases hq with ⟨y, w', S', hr, ha⟩ | ⟨f, args, hr, hc⟩
  · rw [hr]; exact fin y w' S' ha
  · rw [hr]
    refine hc.mono fun e w' he => ?_
    obtain ⟨y, S', rfl, ha⟩ := he
    exact fin y w' S' ha

theorem wp_of_e (o : Oper) {K : AV → List AObj → Prop} {next : Act → World → Prop} {Q : Exit → Act → World → Prop} {s : Sem Value} (he : execOp a.eval o = do pure (Next.value (← s))) (hE : ERun E st a K (s.run P w))
    (hn : ∀ v H' a' w', K v H' → G E (St.put ⟨st.fr, H'⟩ o.dst v) a' w' → next a' w') : o.wp P a w next Q := by
  obtain ⟨y, w', v, H', S', μ', hr, hK, hg, hR, hm⟩ := hE
  unfold Oper.wp
  rw [he]
  simp only [Sem.run_bind, hr, Result.andThen_ok, Sem.run_pure]
  exact hn v H' _ _ hK ⟨S', μ', hg.put o.dst hR hm⟩

/-- A callee that works on what the caller owns. -/
theorem wp_of_call {S : Nat → Prop} {μ : Nat → OI} (g : Good E st a w S μ) (o : Oper) {f : FuncId} {as : List AV} {xs : List Value} {K : AV → List AObj → Prop} {next : Act → World → Prop} {Q : Exit → Act → World → Prop}
    (hr : (execOp a.eval o).run P w = .ok (.enter f xs.toArray) w) (hx : RelL S μ w as xs) (hm : ∀ k, st.H.length ≤ k → mentL k as = false) (hc : ACalls P f as st.H K)
    (hn : ∀ v H' a' w', K v H' → G E (St.put ⟨st.fr, H'⟩ o.dst v) a' w' → next a' w') : o.wp P a w next Q := by
  unfold Oper.wp
  rw [hr]
  refine (hc S μ w xs g.hok hm hx).mono fun e w' he => ?_
  obtain ⟨y, v, H', S', μ', rfl, hK, hevo, hmv, hR⟩ := he
  have hSb : ∀ b, S b → w'.heap[b]? = w.heap[b]? := fun b hb => hevo.kept.block b (g.hok.inS b hb) fun ⟨o', h1⟩ => (g.hok.owns o' b h1).1 hb
  have g' : Good E { st with H := H' } a w' S' μ' :=
    { defers := g.defers
      fr := RelL_mono hevo.sub hSb _ _ (fun k hk => hevo.mu k (by
        rcases Nat.lt_or_ge k st.H.length with h | h
        · exact h
        · rw [g.ids k h] at hk; cases hk)) g.fr
      ids := fun k hk => g.ids k (Nat.le_trans hevo.len hk)
      hok := hevo.hok
      sub := fun b hb => hevo.sub b (g.sub b hb)
      new := fun b hb => by
        rcases hevo.new b hb with h | h | ⟨o', h1⟩
        · exact g.new b h
        · exact .inr (.inl (Nat.le_trans g.kept.size h))
        · exact .inr (g.mines o' b h1)
      mu := fun k hk => (hevo.mu k (Nat.lt_of_lt_of_le hk g.len)).trans (g.mu k hk)
      len := Nat.le_trans g.len hevo.len
      kept := ⟨hevo.kept.os.trans g.kept.os, hevo.kept.tape.trans g.kept.tape, hevo.kept.output.trans g.kept.output, Nat.le_trans g.kept.size hevo.kept.size, fun b hb hn => by
        rw [hevo.kept.block b (Nat.lt_of_lt_of_le hb g.kept.size) fun ⟨o', h1⟩ => ?_]
        · exact g.kept.block b hb hn
        · rcases g.mines o' b h1 with h | h
          · omega
          · exact hn h⟩
      mines := fun k b hb => by
        rcases hevo.mine k b hb with h | ⟨o', h1⟩
        · exact .inl (Nat.le_trans g.kept.size h)
        · exact g.mines o' b h1 }
  exact hn v _ _ _ hK ⟨S', μ', g'.put o.dst hR hmv⟩

theorem wp_of_v {S : Nat → Prop} {μ : Nat → OI} (g : Good E st a w S μ) (o : Oper) {v : AV} {next : Act → World → Prop} {Q : Exit → Act → World → Prop} (hq : QRun P S μ a w o v) (hm : ∀ kk, st.H.length ≤ kk → mentL kk st.fr = false → ment kk v = false)
    (hn : ∀ a' w', G E (st.put o.dst v) a' w' → next a' w') : o.wp P a w next Q := wp_of_q g o hq (fun k hk => hm k hk (g.ids k hk)) hn

theorem wp_of_aqK {Γ : Ctx} (hΓ : CtxOK P Γ) (hg : G E st a w) (o : Oper) {K : AV → List AObj → Prop} {next : Act → World → Prop} {Q : Exit → Act → World → Prop} (h : aqK P Γ o.op st.fr st.H fun v => K v st.H)
    (hn : ∀ v H' a' w', K v H' → G E (St.put ⟨st.fr, H'⟩ o.dst v) a' w' → next a' w') : o.wp P a w next Q := by
  obtain ⟨S, μ, g⟩ := hg
  obtain ⟨v, hk, hq, hm⟩ := aqK_sound hΓ g.hok g.ev o h
  exact wp_of_v g o hq hm fun a' w' => hn v st.H a' w' hk

theorem aop_sound {Γ : Ctx} (hΓ : CtxOK P Γ) (hg : G E st a w) (o : Oper) {K : AV → List AObj → Prop} {next : Act → World → Prop} {Q : Exit → Act → World → Prop} (h : aop P Γ o.op st.fr st.H K)
    (hn : ∀ v H' a' w', K v H' → G E (St.put ⟨st.fr, H'⟩ o.dst v) a' w' → next a' w') : o.wp P a w next Q := by
  have quiet : aqK P Γ o.op st.fr st.H (fun v => K v st.H) → o.wp P a w next Q := fun h => wp_of_aqK hΓ hg o h hn
  obtain ⟨dst, op, type, pos, after, guard⟩ := o
  obtain ⟨S, μ, g⟩ := hg
  cases op <;> simp only [aop] at h <;> (try exact quiet h)
  case alloc t =>
    split at h
    · rename_i z hz
      cases ho : z.all oneA
      · simp [ho] at h
      simp only [ho, cond_true] at h
      exact wp_of_e _ rfl (alloc_sound g hz ho h) hn
    · exact h.elim
  case box t x =>
    split at h
    · rename_i vs hc
      cases ho : vs.all oneA
      · simp [ho] at h
      simp only [ho, cond_true] at h
      exact wp_of_e _ rfl (box_sound g hc ho h) hn
    · exact h.elim
  case store t x y =>
    split at h
    · rename_i vs hc
      cases hl : Nat.beq vs.length (P.cellsOf t) && Nat.blt 0 vs.length
      · simp [hl] at h
      simp only [hl, cond_true] at h
      simp only [Bool.and_eq_true] at hl
      have hl1 := beq_iff.1 hl.1
      have hl2 := blt_iff.1 hl.2
      obtain ⟨w', H', S', μ', hr, hK, g'⟩ := storeX_sound g (g.ev x) (Rel_cells hc (g.ev y)) (fun k hk => ment_cells hc (g.ment y k hk)) hl1 (by omega) h
      unfold Oper.wp
      have : (execOp a.eval ⟨dst, .store t x y, type, pos, after, guard⟩).run P w = .ok .skip w' := by simp [execOp, hr]
      rw [this]
      exact hn (.v undef) H' _ _ hK ⟨S', μ', g'.put dst rfl (fun _ _ => rfl)⟩
    · exact h.elim
  case makeSlice t l c =>
    split at h
    · rename_i e kl l' kc c' he hl hc
      split at h
      · rename_i z hz
        cases hz' : Nat.beq z.length (P.cellsOf e) && Nat.blt 0 z.length && z.all isImm && z.all oneA
        · simp [hz'] at h
        simp only [hz', cond_true] at h
        simp only [Bool.and_eq_true] at hz'
        obtain ⟨h0, h1, h2, h3, hK⟩ := h
        have e1 : a.eval l = .int kl l' := by have := g.ev l; rw [hl] at this; exact this
        have e2 : a.eval c = .int kc c' := by have := g.ev c; rw [hc] at this; exact this
        cases hnz : z.any nilC && z.all (fun a => plainA a || nilC a)
        · rw [hnz] at hK
          exact wp_of_e _ (s := Instr.makeSlice t (.int kl l') (.int kc c')) (by simp [execOp, e1, e2]) (make_sound g he hz (beq_iff.1 hz'.1.1.1) (blt_iff.1 hz'.1.1.2) hz'.1.2 hz'.2 h0 h1 h2 h3 hK) hn
        · rw [hnz] at hK
          simp only [Bool.and_eq_true] at hnz
          exact wp_of_e _ (s := Instr.makeSlice t (.int kl l') (.int kc c')) (by simp [execOp, e1, e2]) (makeX_sound g he hz (beq_iff.1 hz'.1.1.1) hnz.2 h0 h1 h2 h3 hK) hn
      · exact h.elim
    · exact h.elim
  case binOp bop t x y u =>
    cases hnc : isNilC y
    · rw [hnc] at h; exact quiet h
    rw [hnc] at h
    simp only [cond_true] at h
    have hy := isNilC_iff hnc
    subst hy
    split at h
    · rename_i e n hu hl
      obtain ⟨b, h1, h2, _⟩ := nil_sound hu hl (g.ev x) x (.const (.slice none 0 0))
      exact wp_of_e _ (s := do eqGuard .eql t x (.const (.slice none 0 0)) (a.eval x) (.slice none 0 0); binOp .eql t (a.eval x) (.slice none 0 0)) rfl ⟨_, w, _, st.H, S, μ, h2, h b h1, g, rfl, fun _ _ => rfl⟩ hn
    · rename_i e n hu hl
      obtain ⟨b, h1, _, h2⟩ := nil_sound hu hl (g.ev x) x (.const (.slice none 0 0))
      exact wp_of_e _ (s := do eqGuard .neq t x (.const (.slice none 0 0)) (a.eval x) (.slice none 0 0); binOp .neq t (a.eval x) (.slice none 0 0)) rfl ⟨_, w, _, st.H, S, μ, h2, h b h1, g, rfl, fun _ _ => rfl⟩ hn
    · exact h.elim
  case call c =>
    split at h
    · rename_i hcal
      split at h
      · rename_i t t' x y hts hargs
        split at h
        · rename_i e he
          split at h
          · rename_i z hz
            have h1 : c.argTypes = #[t, t'] := by apply Array.ext'; simpa using hts
            have h2 : c.args = #[x, y] := by apply Array.ext'; simpa using hargs
            have hrun : execOp a.eval ⟨dst, .call c, type, pos, after, guard⟩ = (do pure (Next.value (← Builtin.append_ #[t, t'] type #[a.eval x, a.eval y]))) := by
              unfold execOp
              simp only [resolve, hcal, h1, h2]
              simp [invoke, builtin]
            cases htt : Nat.beq t t'
            · rw [htt] at h
              simp only [cond_false] at h
              obtain ⟨hz', h⟩ := bif_true h
              simp only [Bool.and_eq_true] at hz'
              exact wp_of_e _ hrun (appmake_sound g type he hz hz'.1.1.1.1.1 (beq_iff.1 hz'.1.1.1.1.2) (blt_iff.1 hz'.1.1.1.2) (blt_iff.1 hz'.1.1.2) hz'.1.2 hz'.2 (g.ev x) (g.ev y) h) hn
            rw [htt] at h
            simp only [cond_true] at h
            obtain ⟨hz', h⟩ := bif_true h
            simp only [Bool.and_eq_true] at hz'
            have ht := beq_iff.1 htt
            subst ht
            have hE := appendX_sound g type he hz (beq_iff.1 hz'.1.1) (blt_iff.1 hz'.1.2) (blt_iff.1 hz'.2) (g.ev x) (g.ev y) (g.ment x) h
            exact wp_of_e _ hrun hE hn
          · exact h.elim
        · exact h.elim
      · exact h.elim
    · rename_i f hcal
      split at h
      · rename_i g' caps hf
        split at h
        · rename_i X tgt pre Y post out hl
          obtain ⟨hcl, hs⟩ : Callable P g' ∧ SoundE P g' X tgt pre Y post out := hΓ _ (lookC_some hl)
          have hfv := g.ev f
          rw [hf] at hfv
          obtain ⟨cv, hfe, hcaps⟩ := hfv
          have hargs : RelL S μ w (c.args.toList.map (Cg.ev st.fr)) (c.args.map a.eval).toList := by rw [Array.toList_map]; exact map_eval _ _ _ g.ev
          refine wp_of_call g _ (f := g') (xs := (c.args.map a.eval).toList ++ cv) ?_ (RelL_append hargs hcaps) (fun k hk => mentL_append (mentL_map_ev (g.ids k hk) _) ?_) (aEff_sound hs h) hn
          · have e : (c.args.map a.eval) ++ cv.toArray = ((c.args.map a.eval).toList ++ cv).toArray := by apply Array.ext'; simp
            have := callFunc_run (w := w) hcl ((c.args.map a.eval) ++ cv.toArray)
            unfold execOp
            simp only [resolve, hcal, hfe, Deferred.ofValue, Sem.run_bind, Sem.run_pure, Result.andThen_ok, invoke, Array.empty_append]
            rw [this, e]
          · have := g.ment f k hk
            rw [hf] at this
            exact this
        · rename_i X tgt pre Y post out hl
          obtain ⟨hcl, hs⟩ : Callable P g' ∧ SoundE P g' X tgt pre Y post out := hΓ _ (lookC_some hl)
          have hfv := g.ev f
          rw [hf] at hfv
          obtain ⟨cv, hfe, hcaps⟩ := hfv
          have hargs : RelL S μ w (c.args.toList.map (Cg.ev st.fr)) (c.args.map a.eval).toList := by rw [Array.toList_map]; exact map_eval _ _ _ g.ev
          refine wp_of_call g _ (f := g') (xs := (c.args.map a.eval).toList ++ cv) ?_ (RelL_append hargs hcaps) (fun k hk => mentL_append (mentL_map_ev (g.ids k hk) _) ?_) (aEfz_sound hs h) hn
          · have e : (c.args.map a.eval) ++ cv.toArray = ((c.args.map a.eval).toList ++ cv).toArray := by apply Array.ext'; simp
            have := callFunc_run (w := w) hcl ((c.args.map a.eval) ++ cv.toArray)
            unfold execOp
            simp only [resolve, hcal, hfe, Deferred.ofValue, Sem.run_bind, Sem.run_pure, Result.andThen_ok, invoke, Array.empty_append]
            rw [this, e]
          · have := g.ment f k hk
            rw [hf] at this
            exact this
        · rename_i X enc pre res hl
          obtain ⟨hcl, hs⟩ : Callable P g' ∧ ∀ x : X, pre x → PureAt P g' (enc x) (res x) := hΓ _ (lookC_some hl)
          have hfv := g.ev f
          rw [hf] at hfv
          obtain ⟨cv, hfe, hcaps⟩ := hfv
          have hargs : RelL S μ w (c.args.toList.map (Cg.ev st.fr)) (c.args.map a.eval).toList := by rw [Array.toList_map]; exact map_eval _ _ _ g.ev
          refine wp_of_call g _ (f := g') (xs := (c.args.map a.eval).toList ++ cv) ?_ (RelL_append hargs hcaps) (fun k hk => mentL_append (mentL_map_ev (g.ids k hk) _) ?_) (aImf_sound hs h) hn
          · have e : (c.args.map a.eval) ++ cv.toArray = ((c.args.map a.eval).toList ++ cv).toArray := by apply Array.ext'; simp
            have := callFunc_run (w := w) hcl ((c.args.map a.eval) ++ cv.toArray)
            unfold execOp
            simp only [resolve, hcal, hfe, Deferred.ofValue, Sem.run_bind, Sem.run_pure, Result.andThen_ok, invoke, Array.empty_append]
            rw [this, e]
          · have := g.ment f k hk
            rw [hf] at this
            exact this
        · exact quiet h
      · exact quiet h
    · exact quiet h

end
end Cg

/-
  Regions: in the text's order, and in whatever order is drawn. No condition.
-/
set_option linter.unusedSimpArgs false
set_option linter.unusedVariables false
namespace Cg
open Go

section
variable {P : Program} {E : Ent} {Γ : Ctx} {ops : Array Oper}

theorem put_same {s : St} {d : Nat} {v : AV} (h : s.fr[d]? = some v) : s.put (some d) v = s := by
  have hd := (List.getElem?_eq_some_iff.1 h)
  obtain ⟨hlt, he⟩ := hd
  unfold St.put
  have : s.fr.set d v = s.fr := by rw [← he]; exact List.set_getElem_self hlt
  simp only [this]

theorem getD_v {fr : List AV} {d : Nat} {x : Value} (h : fr.getD d .any = .v x) : fr[d]? = some (.v x) := by
  rw [List.getD_eq_getElem?_getD] at h
  cases hd : fr[d]? with
  | none => rw [hd] at h; simp at h
  | some a => rw [hd] at h; simp at h; rw [h]

/-- What the machine knows of a guard holds in the model. -/
theorem wanted_of {st : St} {a : Act} {w : World} (hg : G E st a w) {o : Oper} {b : Bool} (h : wantedA ops o st = some b) : Region.wanted o (yielded ops a.tmps) = b := by
  obtain ⟨S, μ, g⟩ := hg
  unfold wantedA at h
  unfold Region.wanted
  split at h
  · rename_i hn; rw [hn]; simpa using h
  · rename_i j want hn
    rw [hn]
    split at h
    · rename_i d hd
      have hj : ∃ oj, ops[j]? = some oj ∧ oj.dst = some d := by
        unfold guardSlot at hd
        split at hd
        · rename_i oj hoj; exact ⟨oj, hoj, hd⟩
        · cases hd
      obtain ⟨oj, hoj, hdst⟩ := hj
      have yes : ∀ c, st.fr.getD d .any = .v (.bool c) → yielded ops a.tmps j = some c := fun c hc => by
        obtain ⟨y, h1, h2⟩ := RelL_get g.fr (getD_v hc)
        cases h2
        unfold yielded
        rw [hoj]
        simp only [Option.bind_some, hdst]
        rw [← Array.getElem?_toList, h1]
      split at h
      · rename_i hc
        simp only [yes _ hc]
        cases want <;> simpa using h
      · rename_i hc
        simp only [yes _ hc]
        cases want <;> simpa using h
      · rename_i c hc
        obtain ⟨y, h1, h2⟩ := RelL_get g.fr (getD_v hc)
        cases h2
        have : yielded ops a.tmps j = none := by
          unfold yielded
          rw [hoj]
          simp only [Option.bind_some, hdst]
          rw [← Array.getElem?_toList, h1]
        simp only [this]
        simpa using h
      · cases h
    · cases h

theorem G.put_undef {st : St} {a : Act} {w : World} (hg : G E st a w) (d : Option Tmp) : G E (st.put d (.v undef)) (a.put d undef) w := by
  obtain ⟨S, μ, g⟩ := hg
  exact ⟨S, μ, g.put d rfl fun _ _ => rfl⟩

/-- One operation, wanted or not. -/
def StepR (P : Program) (Γ : Ctx) (ops : Array Oper) (o : Oper) (s : St) (K : St → Prop) : Prop :=
  (wantedA ops o s = some true ∧ aop P Γ o.op s.fr s.H fun v H => K (St.put ⟨s.fr, H⟩ o.dst v)) ∨ (wantedA ops o s = some false ∧ K (s.put o.dst (.v undef)))

theorem stepK_R {o : Oper} {s : St} {K : St → Prop} (h : stepK P Γ ops o s K) : StepR P Γ ops o s K := by
  unfold stepK at h
  unfold StepR wantedA
  split at h
  · rename_i hn
    try rw [hn]
    exact .inl ⟨rfl, h⟩
  · rename_i j want hn
    try rw [hn]
    try simp only
    split at h
    · rename_i d hd
      try rw [hd]
      try simp only
      split at h
      · rename_i c hc
        try rw [hc]
        have hget := getD_v hc
        cases c <;> cases want <;> simp only [condP, cond_true, cond_false, put_same hget] at h <;> simp [hc] <;> exact h
      · rename_i c hc
        try rw [hc]
        exact .inr ⟨rfl, h⟩
      · exact h.elim
    · exact h.elim

/-- What is asked at a region's end. -/
def atEnd (E : Ent) (Q : St → Prop) : Exit → Act → World → Prop
  | .normal, a, w => ∃ st, Q st ∧ G E st a w
  | _, _, _ => False

theorem wpD_sound (hΓ : CtxOK P Γ) {base : Nat} (hb : E.H.length = base) {Q : St → Prop} : ∀ (l : List Oper) {st : St} {a : Act} {w : World}, wpD P Γ base ops l Q st → G E st a w → wpList P ops (atEnd E Q) l a w
  | [], st, a, w, h, hg => ⟨st, h, hg⟩
  | o :: rest, st, a, w, h, hg => by
    unfold wpD at h
    split at h
    · rename_i p s' ho
      obtain ⟨hp, h⟩ := need_elim h
      unfold wpList
      have hgd : o.guard = none := ownStore_guard ho
      rw [if_pos (wanted_of hg (by unfold wantedA; rw [hgd]))]
      exact .inl (ownStore_sound hb hg ho hp fun a' w' hg' => wpD_sound hΓ hb rest h hg')
    · unfold wpList
      rcases stepK_R h with ⟨hw, h⟩ | ⟨hw, h⟩
      · rw [if_pos (wanted_of hg hw)]
        exact .inl (aop_sound hΓ hg o h fun v H' a' w' hK hg' => wpD_sound hΓ hb rest hK hg')
      · rw [if_neg (by rw [wanted_of hg hw]; simp)]
        exact wpD_sound hΓ hb rest h (hg.put_undef _)
theorem wpL_sound (hΓ : CtxOK P Γ) {Q : St → Prop} : ∀ (l : List Oper) {st : St} {a : Act} {w : World}, wpL P Γ ops l Q st → G E st a w → wpList P ops (atEnd E Q) l a w
  | [], st, a, w, h, hg => ⟨st, h, hg⟩
  | o :: rest, st, a, w, h, hg => by
    unfold wpList
    rcases stepK_R h with ⟨hw, h⟩ | ⟨hw, h⟩
    · rw [if_pos (wanted_of hg hw)]
      exact .inl (aop_sound hΓ hg o h fun v H' a' w' hK hg' => wpL_sound hΓ rest hK hg')
    · rw [if_neg (by rw [wanted_of hg hw]; simp)]
      exact wpL_sound hΓ rest h (hg.put_undef _)

/-! ### Quiet operations -/

theorem aCallK_ex {H : List AObj} {f : AV} {as : List AV} {k : AV → Prop} (h : aCallK Γ H f as k) : ∃ v, aCallK Γ H f as (fun v' => v' = v) ∧ k v := by
  unfold aCallK at h ⊢
  split at h
  · split at h
    · rename_i X enc pre res hl
      split at h
      rename_i q vs hv
      obtain ⟨hq, x, hle, hpre, h⟩ := need_elim h
      obtain ⟨hsc, hk⟩ := bif_true h
      refine ⟨_, ?_, hk⟩
      try simp only [hl, hv]
      exact need_intro hq ⟨x, hle, hpre, by rw [hsc]; rfl⟩
    · rename_i X enc pre res hl
      obtain ⟨him, x, hle, hpre, h⟩ := bif_true h
      obtain ⟨hir, hk⟩ := bif_true h
      refine ⟨_, ?_, hk⟩
      try simp only [hl, him, cond_true]
      exact ⟨x, hle, hpre, by rw [hir]; rfl⟩
    · exact h.elim
  · exact h.elim

theorem aqK_ex {op : Op} {fr : List AV} {H : List AObj} {k : AV → Prop} (h : aqK P Γ op fr H k) : ∃ v, aqK P Γ op fr H (fun v' => v' = v) ∧ k v := by
  have quiet : (match aq P op fr H with | some (p, v) => need p (k v) | none => False) → ∃ v, (match aq P op fr H with | some (p, v') => need p (v' = v) | none => False) ∧ k v := fun h => by
    split at h
    · rename_i p v hq
      obtain ⟨hp, hk⟩ := need_elim h
      exact ⟨v, need_intro hp rfl, hk⟩
    · exact h.elim
  cases op <;> simp only [aqK] at h ⊢ <;> (try exact quiet h)
  case call c =>
    split at h
    · rename_i f hf; exact aCallK_ex h
    · exact quiet h

theorem aCallK_mono {H : List AObj} {f : AV} {as : List AV} {k k' : AV → Prop} (hk : ∀ v, k v → k' v) (h : aCallK Γ H f as k) : aCallK Γ H f as k' := by
  unfold aCallK at h ⊢
  split at h
  · split at h
    · rename_i X enc pre res hl
      split at h
      rename_i q vs hv
      obtain ⟨hq, x, hle, hpre, h⟩ := need_elim h
      obtain ⟨hsc, h⟩ := bif_true h
      try simp only [hl, hv]
      exact need_intro hq ⟨x, hle, hpre, by rw [hsc]; exact hk _ h⟩
    · rename_i X enc pre res hl
      obtain ⟨him, x, hle, hpre, h⟩ := bif_true h
      obtain ⟨hir, h⟩ := bif_true h
      try simp only [hl, him, cond_true]
      exact ⟨x, hle, hpre, by rw [hir]; exact hk _ h⟩
    · exact h.elim
  · exact h.elim

theorem aqK_mono {op : Op} {fr : List AV} {H : List AObj} {k k' : AV → Prop} (hk : ∀ v, k v → k' v) (h : aqK P Γ op fr H k) : aqK P Γ op fr H k' := by
  have quiet : (match aq P op fr H with | some (p, v) => need p (k v) | none => False) → (match aq P op fr H with | some (p, v') => need p (k' v') | none => False) := fun h => by
    split at h
    · rename_i p v hq
      obtain ⟨hp, h⟩ := need_elim h
      exact need_intro hp (hk _ h)
    · exact h.elim
  cases op <;> simp only [aqK] at h ⊢ <;> (try exact quiet h)
  case call c =>
    split at h
    · exact aCallK_mono hk h
    · exact quiet h

theorem aop_quiet {op : Op} {fr : List AV} {H : List AObj} {K : AV → List AObj → Prop} (hq : quietOp Γ op = true) (h : aop P Γ op fr H K) : aqK P Γ op fr H fun v => K v H := by
  cases op <;> simp only [quietOp, reduceCtorEq] at hq <;> simp only [aop] at h <;> (try exact h)
  case binOp bop t x y u =>
    simp only [Bool.not_eq_true'] at hq
    rw [hq] at h
    exact h
  case call c =>
    split at h
    · rename_i hcal
      rw [hcal] at hq
      cases hq
    · rename_i f hcal
      rw [hcal] at hq
      split at h
      · rename_i g caps hf
        split at h
        · rename_i X tgt pre Y post out hl
          split at hq
          · cases hq
          · rename_i heq; cases heq
          · rename_i g' heq
            cases heq
            simp only [Cg.ev, AV.fn.injEq, Fn.func.injEq] at hf
            obtain ⟨rfl, _⟩ := hf
            rw [hl] at hq
            cases hq
          · cases hq
        · rename_i X tgt pre Y post out hl
          split at hq
          · cases hq
          · rename_i heq; cases heq
          · rename_i g' heq
            cases heq
            simp only [Cg.ev, AV.fn.injEq, Fn.func.injEq] at hf
            obtain ⟨rfl, _⟩ := hf
            rw [hl] at hq
            cases hq
          · cases hq
        · rename_i X enc pre res hl
          split at hq
          · cases hq
          · rename_i heq; cases heq
          · rename_i g' heq
            cases heq
            simp only [Cg.ev, AV.fn.injEq, Fn.func.injEq] at hf
            obtain ⟨rfl, _⟩ := hf
            rw [hl] at hq
            cases hq
          · cases hq
        · exact h
      · exact h
    · exact h

/-- What a quiet operation yields in a state. -/
def Yld (P : Program) (Γ : Ctx) (ops : Array Oper) (o : Oper) (s : St) (v : AV) : Prop :=
  (wantedA ops o s = some true ∧ aqK P Γ o.op s.fr s.H fun v' => v' = v) ∨ (wantedA ops o s = some false ∧ v = .v undef)

theorem stepR_quiet {o : Oper} {s : St} {K : St → Prop} (hq : quietOp Γ o.op = true) (h : StepR P Γ ops o s K) : ∃ v, Yld P Γ ops o s v ∧ K (s.put o.dst v) := by
  rcases h with ⟨hw, h⟩ | ⟨hw, h⟩
  · obtain ⟨v, h1, h2⟩ := aqK_ex (aop_quiet hq h)
    exact ⟨v, .inl ⟨hw, h1⟩, h2⟩
  · exact ⟨_, .inr ⟨hw, rfl⟩, h⟩

/-- Whatever order is picked from here on. -/
def aAny (P : Program) (Γ : Ctx) (md : Region.Mode) (ops : Array Oper) (Q : St → Prop) : Nat → Array Bool → St → Prop
  | 0, listed, s => Region.ready md ops listed = [] ∧ Q s
  | fuel + 1, listed, s => (Region.ready md ops listed = [] → Q s) ∧
      ∀ i ∈ Region.ready md ops listed, ∃ o, ops[i]? = some o ∧ StepR P Γ ops o s fun s' => aAny P Γ md ops Q fuel (listed.setIfInBounds i true) s'

theorem wpOp_of_step (hΓ : CtxOK P Γ) {i : Nat} {o : Oper} (hi : ops[i]? = some o) {s : St} {K' : St → Prop} (h : StepR P Γ ops o s K') {a : Act} {w : World} (hg : G E s a w)
    {K : Act → World → Prop} {Q : Exit → Act → World → Prop} (hK : ∀ s' a' w', K' s' → G E s' a' w' → K a' w') : wpOp P ops Q i K a w := by
  unfold wpOp
  rw [hi]
  simp only
  rcases h with ⟨hw, h⟩ | ⟨hw, h⟩
  · rw [if_pos (wanted_of hg hw)]
    exact .inl (aop_sound hΓ hg o h fun v H' a' w' hk hg' => hK _ a' w' hk hg')
  · rw [if_neg (by rw [wanted_of hg hw]; simp)]
    exact hK _ _ _ h (hg.put_undef _)

theorem aAny_sound (hΓ : CtxOK P Γ) {md : Region.Mode} {Q : St → Prop} : ∀ (fuel : Nat) (listed : Array Bool) (s : St) (a : Act) (w : World), aAny P Γ md ops Q fuel listed s → G E s a w → wpAny P md ops (atEnd E Q) fuel listed a w
  | 0, _, s, _, _, h, hg => ⟨h.1, s, h.2, hg⟩
  | fuel + 1, _, s, _, _, h, hg => ⟨fun h0 => ⟨s, h.1 h0, hg⟩, fun i hi => by
      obtain ⟨o, h1, h2⟩ := h.2 i hi
      exact wpOp_of_step hΓ h1 h2 hg fun s' a' w' hk hg' => aAny_sound hΓ fuel _ s' a' w' hk hg'⟩

theorem ev_put {s : St} {d : Option Tmp} {v : AV} {x : Operand} (h : ∀ t, d = some t → x ≠ .tmp t) : Cg.ev (s.put d v).fr x = Cg.ev s.fr x := by
  cases d with
  | none => rfl
  | some t =>
    cases x with
    | tmp u =>
      have hne : t ≠ u := fun e => h t rfl (by rw [e])
      simp only [St.put, Cg.ev, List.getD_eq_getElem?_getD, List.getElem?_set_ne hne]
    | _ => rfl

theorem put_H (s : St) (d : Option Tmp) (v : AV) : (s.put d v).H = s.H := by cases d <;> rfl

theorem aq_congr {op : Op} {fr fr' : List AV} {H : List AObj} (h : ∀ x ∈ op.operands, Cg.ev fr x = Cg.ev fr' x) : aq P op fr H = aq P op fr' H := by
  have pairs : ∀ ps : Array (Nat × Operand), (∀ x ∈ (ps.toList.map (·.2)).toArray, Cg.ev fr x = Cg.ev fr' x) → pairsA fr ps = pairsA fr' ps := fun ps hp =>
    List.map_congr_left fun p hm => by
      obtain ⟨i, x⟩ := p
      simp only [hp x (by simp; exact ⟨i, by simpa using hm⟩)]
  cases op <;> simp only [Op.operands] at h <;> simp only [aq]
  case build t ps => rw [pairs ps h]
  case buildSlice t n ps => rw [pairs ps h]
  case makeFunc fn first captured =>
    have : captured.toList.map (Cg.ev fr) = captured.toList.map (Cg.ev fr') := List.map_congr_left fun x hx => h x (by simp; exact .inr (by simpa using hx))
    rw [this]
  case call c =>
    have hargs : c.args.toList.map (Cg.ev fr) = c.args.toList.map (Cg.ev fr') := List.map_congr_left fun x hx => h x (by simp [Call.operands]; exact .inr (by simpa using hx))
    rw [hargs]
  case slice t x lo hi mx => cases lo <;> cases hi <;> cases mx <;> simp_all
  all_goals (first | rfl | (simp_all; done))

theorem call_congr {c : Call} {fr fr' : List AV} (h : ∀ x ∈ (Op.call c).operands, Cg.ev fr x = Cg.ev fr' x) : c.args.toList.map (Cg.ev fr) = c.args.toList.map (Cg.ev fr') ∧ ∀ f, c.callee = .value f → Cg.ev fr f = Cg.ev fr' f := by
  simp only [Op.operands] at h
  exact ⟨List.map_congr_left fun x hx => h x (by simp [Call.operands]; exact .inr (by simpa using hx)), fun f hc => h f (by simp [Call.operands, hc])⟩

theorem aqK_congr {op : Op} {fr fr' : List AV} {H : List AObj} (h : ∀ x ∈ op.operands, Cg.ev fr x = Cg.ev fr' x) (k : AV → Prop) : aqK P Γ op fr H k = aqK P Γ op fr' H k := by
  have h1 := aq_congr (P := P) (H := H) h
  cases op <;> simp only [aqK] <;> (try rw [h1])
  case call c =>
    obtain ⟨h2, h3⟩ := call_congr h
    rw [h2]
    cases hc : c.callee with
    | value f => simp only [h3 f hc]
    | _ => simp only

theorem aop_congr {op : Op} {fr fr' : List AV} {H : List AObj} (h : ∀ x ∈ op.operands, Cg.ev fr x = Cg.ev fr' x) (K : AV → List AObj → Prop) : aop P Γ op fr H K = aop P Γ op fr' H K := by
  have h1 := aqK_congr (P := P) (Γ := Γ) (H := H) h
  cases op <;> simp only [aop, h1] <;> simp only [Op.operands] at h
  case box t x => rw [h x (by simp)]
  case store t a x => rw [h x (by simp), h a (by simp)]
  case makeSlice t l c => rw [h l (by simp), h c (by simp)]
  case binOp bop t x y u => rw [h x (by simp)]
  case call c =>
    obtain ⟨h2, h3⟩ := call_congr (c := c) (by simpa [Op.operands] using h)
    cases hc : c.callee with
    | value f => simp only [h3 f hc, h2]
    | invoke r m => simp only
    | builtin b =>
      cases b <;> simp only
      case append =>
        split
        · rename_i t t' x y hts hargs
          have hx : Cg.ev fr x = Cg.ev fr' x ∧ Cg.ev fr y = Cg.ev fr' y := by
            rw [hargs] at h2
            simp only [List.map_cons, List.map_nil, List.cons.injEq, and_true] at h2
            exact h2
          rw [hx.1, hx.2]
        · rfl

theorem wantedA_put {o : Oper} {s : St} {d : Option Tmp} {v : AV} (h : ∀ t, d = some t → t ∉ o.looksAt ops) : wantedA ops o (s.put d v) = wantedA ops o s := by
  cases d with
  | none => rfl
  | some t =>
    unfold wantedA
    cases hgd : o.guard with
    | none => rfl
    | some gw =>
      obtain ⟨j, want⟩ := gw
      simp only
      cases hd : guardSlot ops j with
      | none => rfl
      | some u =>
        have hne : t ≠ u := fun e => h t rfl (by
          subst e
          unfold guardSlot at hd
          split at hd
          · rename_i oj hoj; simp [Oper.looksAt, hgd, hoj, hd]
          · cases hd)
        simp only [St.put, List.getD_eq_getElem?_getD, List.getElem?_set_ne hne]

theorem wantedA_H {o : Oper} {fr : List AV} {H H' : List AObj} : wantedA ops o ⟨fr, H⟩ = wantedA ops o ⟨fr, H'⟩ := rfl

theorem looks_ev {o : Oper} {s : St} {d : Option Tmp} {v : AV} (h : ∀ t, d = some t → t ∉ o.looksAt ops) : ∀ x ∈ o.op.operands, Cg.ev (s.put d v).fr x = Cg.ev s.fr x := fun x hx =>
  ev_put fun t ht hxt => h t ht (by subst hxt; exact List.mem_append_left _ (List.mem_filterMap.2 ⟨.tmp t, by simpa using hx, rfl⟩))

theorem Yld.put {o : Oper} {s : St} {v : AV} {d : Option Tmp} {u : AV} (h : ∀ t, d = some t → t ∉ o.looksAt ops) : Yld P Γ ops o (s.put d u) v ↔ Yld P Γ ops o s v := by
  unfold Yld
  rw [put_H, aqK_congr (looks_ev h), wantedA_put h]

theorem put_comm (s : St) {x y : Option Tmp} (v u : AV) (h : ∀ d, x = some d → y ≠ some d) : (s.put x v).put y u = (s.put y u).put x v := by
  cases x with
  | none => rfl
  | some d =>
    cases y with
    | none => rfl
    | some e =>
      have hne : d ≠ e := fun he => h d rfl (he ▸ rfl)
      simp only [St.put]
      rw [List.set_comm _ _ hne]

theorem put_fr (fr : List AV) (H H' : List AObj) (d : Option Tmp) (v : AV) : St.put ⟨(St.put ⟨fr, H⟩ d v).fr, H'⟩ = St.put (St.put ⟨fr, H'⟩ d v) := by cases d <;> rfl

/-- An operation does not mind a slot that it does not look at. -/
theorem StepR.put {o : Oper} {s : St} {d : Option Tmp} {v : AV} {K : St → Prop} (h1 : ∀ t, d = some t → t ∉ o.looksAt ops) (h2 : ∀ t, d = some t → o.dst ≠ some t) (h : StepR P Γ ops o (s.put d v) K) : StepR P Γ ops o s fun s' => K (s'.put d v) := by
  unfold StepR at *
  rw [wantedA_put h1, put_H, aop_congr (looks_ev h1)] at h
  rcases h with ⟨hw, h⟩ | ⟨hw, h⟩
  · refine .inl ⟨hw, ?_⟩
    have e : (fun v' H => K ((St.put ⟨(s.put d v).fr, H⟩ o.dst v'))) = fun v' H => K ((St.put ⟨s.fr, H⟩ o.dst v').put d v) := by
      funext v' H
      have : (⟨(s.put d v).fr, H⟩ : St) = (St.put ⟨s.fr, H⟩ d v) := by cases d <;> rfl
      rw [this, put_comm _ _ _ h2]
    rw [e] at h
    exact h
  · refine .inr ⟨hw, ?_⟩
    rw [put_comm _ _ _ h2] at h
    exact h

theorem aEff_imp {X Y : Type} {tgt : X → St} {pre : X → Prop} {post : X → Y → Prop} {out : X → Y → AV × List AObj} {args : List AV} {H : List AObj} {K K' : AV → List AObj → Prop} (hK : ∀ v H', K v H' → K' v H')
    (h : aEff X tgt pre Y post out args H K) : aEff X tgt pre Y post out args H K' := by
  obtain ⟨x, h1, h2, h⟩ := h
  refine ⟨x, h1, h2, fun y hy => ?_⟩
  have := h y hy
  split at this
  obtain ⟨h3, h4⟩ := bif_true this
  rename_i heq
  simp only [heq, h3, cond_true]
  exact hK _ _ h4


/-- Variables that stay what they are. -/
def VarsIn (H H' : List AObj) : Prop := ∀ (o : Nat) (cs : List AV), H[o]? = some (AObj.var cs) → H'[o]? = some (AObj.var cs)
theorem VarsIn.app {H H' : List AObj} (h : VarsIn H H') (x : AObj) : VarsIn H (H' ++ [x]) := fun o cs ho => by
  have := h o cs ho
  rw [List.getElem?_append_left (List.getElem?_eq_some_iff.1 this).1]; exact this
theorem VarsIn.set {H H' : List AObj} (h : VarsIn H H') {k : Nat} {x : AObj} (hk : ∀ cs, H'.getD k .dead ≠ .var cs) : VarsIn H (H'.set k x) := fun o cs ho => by
  have h1 := h o cs ho
  rw [List.getElem?_set_ne (fun e => hk cs (by rw [e, List.getD_eq_getElem?_getD, h1]; rfl))]
  exact h1
theorem VarsIn.thO {H H' : List AObj} (h : VarsIn H H') (k : Nat) : VarsIn H (thO H' k) := by
  unfold Cg.thO
  split
  · rename_i hk; exact h.set (fun cs e => by rw [e] at hk; cases hk)
  · exact h
theorem aAppend_imp {e : TypeId} {dst src : AV} {H0 H : List AObj} (h0 : VarsIn H0 H) {K K' : AV → List AObj → Prop} (hK : ∀ v H', VarsIn H0 H' → K v H' → K' v H') (h : aAppend P e dst src H K) : aAppend P e dst src H K' := by
  unfold aAppend at h ⊢
  split at h
  · obtain ⟨h2, h⟩ := bif_true h
    rw [h2]
    simp only [cond_true]
    obtain ⟨hp, h⟩ := need_elim h
    refine need_intro hp ?_
    split at h
    · obtain ⟨h3, h4, h5, h⟩ := bif_true h
      rw [h3]
      exact ⟨h4, h5, hK _ _ (h0.app _) h⟩
    · split at h
      · rename_i ho
        obtain ⟨h3, h4, h5, h⟩ := bif_true h
        simp only [h3, cond_true]
        exact ⟨h4, h5, hK _ _ ((h0.set (fun cs e => by rw [e] at ho; cases ho)).app _) h⟩
      · exact h
    · exact h
  · exact h
theorem aAppendX_imp {e : TypeId} {dst src : AV} {H : List AObj} {K K' : AV → List AObj → Prop} (hK : ∀ v H', VarsIn H H' → K v H' → K' v H') (h : aAppendX P e dst src H K) : aAppendX P e dst src H K' := by
  have refl : VarsIn H H := fun _ _ h => h
  unfold aAppendX at h ⊢
  split at h
  · split at h
    · rename_i ho
      split at h
      · obtain ⟨h1, h⟩ := bif_true h
        rw [h1]
        simp only [cond_true]
        obtain ⟨hp, h2, h3, h4, h5, h⟩ := need_elim h
        exact need_intro hp ⟨h2, h3, h4, h5, hK _ _ (refl.set (fun cs e => by rw [e] at ho; cases ho)) h⟩
      · exact h
    · exact h
  · split at h
    · obtain ⟨h1, h⟩ := bif_true h
      rw [h1]
      simp only [cond_true]
      split at h
      · split at h
        · rename_i hA ho
          obtain ⟨h2, h3, h4, h6, h5, h⟩ := bif_true h
          rw [h2]
          have v1 : VarsIn H (H.set _ .dead) := refl.set (fun cs e => by rw [e] at hA; cases hA)
          refine ⟨h3, h4, h6, h5, hK _ _ ((v1.set (fun cs e => ?_)).app _) h⟩
          rw [List.getD_eq_getElem?_getD, List.getElem?_set] at e
          split at e
          · split at e <;> cases e
          · rw [← List.getD_eq_getElem?_getD, ho] at e; cases e
        · rename_i hA ho
          obtain ⟨h2, h3, h4, h5, h⟩ := bif_true h
          rw [h2]
          have v1 : VarsIn H (H.set _ .dead) := refl.set (fun cs e => by rw [e] at hA; cases hA)
          refine ⟨h3, h4, h5, hK _ _ ((v1.set (fun cs e => ?_)).app _) h⟩
          rw [List.getD_eq_getElem?_getD, List.getElem?_set] at e
          split at e
          · split at e <;> cases e
          · rw [← List.getD_eq_getElem?_getD, ho] at e; cases e
        · rename_i hA ho
          obtain ⟨h2, h3, h⟩ := bif_true h
          rw [h2]
          exact ⟨h3, aAppend_imp (refl.set (fun cs e => by rw [e] at ho; cases ho)) hK h⟩
        · exact h
      · split at h
        · obtain ⟨hp, h⟩ := need_elim h
          exact need_intro hp (aAppend_imp (refl.thO _) hK h)
        · exact h
    · exact aAppend_imp (refl.thO _) hK h
  · exact aAppend_imp refl hK h

/-- What is known behind an operation. -/
theorem aStore_imp {a : AV} {vs : List AV} {H : List AObj} {K K' : List AObj → Prop} (hK : ∀ H', K H' → K' H') (h : aStore a vs H K) : aStore a vs H K' := by
  unfold aStore at h ⊢
  split at h
  · split at h
    · obtain ⟨h2, h⟩ := bif_true h
      simp only [h2, cond_true]
      exact hK _ h
    · exact h
  · split at h
    · obtain ⟨h2, h3, h⟩ := bif_true h
      simp only [h2, cond_true]
      exact ⟨h3, hK _ h⟩
    · exact h
  · exact h
theorem aStoreS_imp {a : AV} {vs : List AV} {H : List AObj} {K K' : List AObj → Prop} (hK : ∀ H', K H' → K' H') (h : aStoreS a vs H K) : aStoreS a vs H K' := by
  unfold aStoreS at h ⊢
  split at h
  · split at h
    · exact ⟨h.1, hK _ h.2⟩
    · exact h
  · exact h
theorem aStoreX_imp {a : AV} {vs : List AV} {H : List AObj} {K K' : List AObj → Prop} (hK : ∀ H', K H' → K' H') (h : aStoreX a vs H K) : aStoreX a vs H K' := by
  unfold aStoreX at h ⊢
  cases h1 : xslOf vs with
  | none =>
    rw [h1] at h
    simp only at h ⊢
    cases h2 : aScal a vs H with
    | true => rw [h2] at h; exact aStoreS_imp hK h
    | false => rw [h2] at h; exact aStore_imp hK h
  | some o =>
    rw [h1] at h
    simp only at h ⊢
    cases h2 : unxL H o vs with
    | none => rw [h2] at h; exact aStore_imp hK h
    | some q =>
      rw [h2] at h
      simp only at h ⊢
      obtain ⟨h3, h4⟩ := need_elim h
      exact need_intro h3 (aStore_imp hK h4)
theorem aop_imp {op : Op} {fr : List AV} {H : List AObj} {K K' : AV → List AObj → Prop} (hK : ∀ v H', (turnsVar Γ op = false → ∀ (o : Nat) (cs : List AV), H[o]? = some (AObj.var cs) → H'[o]? = some (AObj.var cs)) → K v H' → K' v H') (h : aop P Γ op fr H K) : aop P Γ op fr H K' := by
  have app : ∀ x : AObj, ∀ (o : Nat) (cs : List AV), H[o]? = some (AObj.var cs) → (H ++ [x])[o]? = some (AObj.var cs) := fun x o cs ho => by
    rw [List.getElem?_append_left (List.getElem?_eq_some_iff.1 ho).1]; exact ho
  have same : ∀ v, K v H → K' v H := fun v h => hK v H (fun _ _ _ h => h) h
  cases op <;> simp only [aop] at h ⊢ <;> (try exact aqK_mono same h)
  case alloc t =>
    split at h
    · obtain ⟨h1, h⟩ := bif_true h
      rw [h1]
      exact hK _ _ (fun _ => app _) h
    · exact h
  case box t x =>
    split at h
    · obtain ⟨h1, h⟩ := bif_true h
      rw [h1]
      exact hK _ _ (fun _ => app _) h
    · exact h
  case store t a x =>
    split at h
    · obtain ⟨h1, h⟩ := bif_true h
      rw [h1]
      simp only [cond_true]
      exact aStoreX_imp (fun H' hk => hK _ _ (fun hf => by simp [turnsVar] at hf) hk) h
    · exact h
  case makeSlice t l c =>
    split at h
    · rename_i z _
      split at h
      · rename_i z _
        obtain ⟨h1, h2, h3, h4, h5, h⟩ := bif_true h
        rw [h1]
        refine ⟨h2, h3, h4, h5, ?_⟩
        revert h
        cases z.any nilC && z.all (fun a => plainA a || nilC a)
        · exact fun h => hK _ _ (fun _ => app _) h
        · exact fun h => hK _ _ (fun _ => app _) h
      · exact h
    · exact h
  case binOp bop t x y u =>
    cases hnc : isNilC y <;> rw [hnc] at h
    · simp only [cond_false] at h ⊢
      exact aqK_mono same h
    simp only [cond_true] at h ⊢
    split at h
    · exact fun b hb => same _ (h b hb)
    · exact fun b hb => same _ (h b hb)
    · exact h
  case call c =>
    split at h
    · split at h
      · split at h
        · split at h
          · generalize hgt : Nat.beq _ _ = btt at h ⊢
            cases btt
            · simp only [cond_false] at h ⊢
              obtain ⟨h1, h⟩ := bif_true h
              rw [h1]
              simp only [cond_true]
              unfold aAppMake at h ⊢
              split at h
              · obtain ⟨h2, h3, h⟩ := h
                exact ⟨h2, h3, hK _ _ (fun _ => app _) h⟩
              · exact h
            simp only [cond_true] at h ⊢
            obtain ⟨h1, h⟩ := bif_true h
            rw [h1]
            simp only [cond_true]
            exact aAppendX_imp (fun v H' hv hk => hK v H' (fun _ => hv) hk) h
          · exact h
        · exact h
      · exact h
    · rename_i f hcal
      split at h
      · rename_i g caps hf
        split at h
        · rename_i X tgt pre Y post out hl
          refine aEff_imp (fun v H' hk => hK v H' (fun hf' => ?_) hk) h
          exfalso
          cases f with
          | func g' =>
            simp only [Cg.ev, AV.fn.injEq, Fn.func.injEq] at hf
            obtain ⟨rfl, _⟩ := hf
            simp [turnsVar, hcal, hl] at hf'
          | _ => simp [turnsVar, hcal] at hf'
        · rename_i X tgt pre Y post out hl
          unfold aEfz at h ⊢
          split at h
          rename_i q vs hv
          obtain ⟨hq, h⟩ := need_elim h
          refine need_intro hq (aEff_imp (fun v H' hk => hK v H' (fun hf' => ?_) hk) h)
          exfalso
          cases f with
          | func g' =>
            simp only [Cg.ev, AV.fn.injEq, Fn.func.injEq] at hf
            obtain ⟨rfl, _⟩ := hf
            simp [turnsVar, hcal, hl] at hf'
          | _ => simp [turnsVar, hcal] at hf'
        · rename_i X enc pre res hl
          unfold aImf at h ⊢
          split at h
          rename_i q vs hv
          obtain ⟨hq, h⟩ := need_elim h
          obtain ⟨h1, x, h2, h3, h⟩ := bif_true h
          obtain ⟨h4, h⟩ := bif_true h
          refine need_intro hq ?_
          rw [h1]
          refine ⟨x, h2, h3, ?_⟩
          rw [h4]
          refine hK _ _ (fun hf' => ?_) h
          exfalso
          cases f with
          | func g' =>
            simp only [Cg.ev, AV.fn.injEq, Fn.func.injEq] at hf
            obtain ⟨rfl, _⟩ := hf
            simp [turnsVar, hcal, hl] at hf'
          | _ => simp [turnsVar, hcal] at hf'
        · exact aqK_mono same h
      · exact aqK_mono same h
    · exact aqK_mono same h

theorem StepR.imp {o : Oper} {s : St} {K K' : St → Prop} (hK : ∀ s' v, s'.fr = (s.put o.dst v).fr → (turnsVar Γ o.op = false → ∀ (k : Nat) (cs : List AV), s.H[k]? = some (AObj.var cs) → s'.H[k]? = some (AObj.var cs)) → K s' → K' s') (h : StepR P Γ ops o s K) : StepR P Γ ops o s K' := by
  rcases h with ⟨hw, h⟩ | ⟨hw, h⟩
  · exact .inl ⟨hw, aop_imp (fun v H' hv hk => hK _ v (by cases o.dst <;> rfl) (by cases o.dst <;> exact hv) hk) h⟩
  · exact .inr ⟨hw, hK _ _ rfl (fun _ k cs hk => by rw [put_H]; exact hk) h⟩

theorem StepR.mono {o : Oper} {s : St} {K K' : St → Prop} (hK : ∀ s', K s' → K' s') (h : StepR P Γ ops o s K) : StepR P Γ ops o s K' := h.imp fun s' _ _ _ h => hK s' h

theorem view0_imm {H H' : List AObj} {a : AV} (h : isImm a = true) : view0 H a = view0 H' a := by cases a <;> first | rfl | (simp [isImm] at h)

theorem viewL_congr {f g : AV → List Prop × AV} : ∀ {l : List AV}, (∀ a ∈ l, f a = g a) → viewL f l = viewL g l
  | [], _ => rfl
  | a :: l, h => by simp only [viewL, h a List.mem_cons_self, viewL_congr fun b hb => h b (List.mem_cons_of_mem _ hb)]

theorem viewL_imm {f g : AV → List Prop × AV} {p : AV → Bool} (h : ∀ a, p a = true → f a = g a) {cs : List AV} (hc : cs.all p = true) : viewL f cs = viewL g cs := viewL_congr fun b hb => h b (List.all_eq_true.1 hc b hb)
theorem viewG_imm {H H' : List AObj} (a : AV) (h : imm1 a = true) : viewG H a = viewG H' a := by
  unfold imm1 at h
  split at h
  · simp only [viewG, viewL_imm (fun a ha => view0_imm (H := H) (H' := H') ha) h]
  · rename_i hno
    cases a <;> first | rfl | (simp [isImm] at h)
theorem view2_imm {H H' : List AObj} {a : AV} (h : immA a = true) : view2 H a = view2 H' a := by
  have one : ∀ b, isImm b = true → view1 H b = view1 H' b := fun b hb => by cases b <;> first | rfl | (simp [isImm] at hb)
  unfold immA at h
  split at h
  · have e := viewL_imm (viewG_imm (H := H) (H' := H')) h
    simp only [view2, e]
  · rename_i cs
    have : viewL (view1 H) cs = viewL (view1 H') cs := viewL_congr fun b hb => by
      have := List.all_eq_true.1 h b hb
      split at this
      · rfl
      · exact one b this
    simp only [view2, this]
  · rfl
  · rename_i h1 h2 h3
    unfold imm1 at h
    split at h
    · simp only [view2, viewL_imm (fun a ha => view0_imm (H := H) (H' := H') ha) h]
    · cases a <;> first | rfl | (simp [isImm] at h)

theorem aSlice_H {H H' : List AObj} {t : TypeId} {x : AV} {lo hi mx : Option AV} (hno : ∀ o b n, x ≠ .osl o b n) : aSlice P H t x lo hi mx = aSlice P H' t x lo hi mx := by
  unfold aSlice
  cases mx with
  | some m => rfl
  | none =>
    simp only
    split <;> first | rfl | exact absurd rfl (hno _ _ _)

/-- An operation that looks at no object. -/
theorem pureOp_H {op : Op} {fr : List AV} {H H' : List AObj} (hp : pureOp Γ op fr = true) (k : AV → Prop) : aqK P Γ op fr H k = aqK P Γ op fr H' k := by
  cases op <;> simp only [pureOp, Bool.false_eq_true] at hp <;> simp only [aqK, aq]
  case load t a =>
    have : loadA P H t (Cg.ev fr a) = loadA P H' t (Cg.ev fr a) := by
      have : ∀ n, cellsAt H (Cg.ev fr a) n = cellsAt H' (Cg.ev fr a) n := fun n => by cases h : Cg.ev fr a <;> first | rfl | (rw [h] at hp; simp [noObj] at hp)
      simp only [loadA, this]
    rw [this]
  case slice t x lo hi mx =>
    have hno : ∀ o b n, asSl (Cg.ev fr x) ≠ .osl o b n := fun o b n h => by
      unfold asSl at h
      split at h
      · cases h
      · cases h
      · rw [h] at hp; simp [noObj] at hp
    rw [aSlice_H hno]
  case indexAddr t x i =>
    have : aIndexAddr P H t (Cg.ev fr x) (Cg.ev fr i) = aIndexAddr P H' t (Cg.ev fr x) (Cg.ev fr i) := by
      unfold aIndexAddr
      split <;> first | rfl | (rename_i h; rw [h] at hp; simp [noObj] at hp; done) | (rename_i h _; rw [h] at hp; simp [noObj] at hp; done) | (rename_i h _ _; rw [h] at hp; simp [noObj] at hp)
    rw [this]
  case call c =>
    cases hc : c.callee with
    | value f =>
      simp only [hc] at hp
      simp only
      split at hp
      · rename_i g caps hf
        simp only [Bool.and_eq_true] at hp
        obtain ⟨h1, h2⟩ := hp
        have hv : viewL (view2 H) (c.args.toList.map (Cg.ev fr) ++ caps) = viewL (view2 H') (c.args.toList.map (Cg.ev fr) ++ caps) := viewL_congr fun a ha => view2_imm (List.all_eq_true.1 h1 a ha)
        simp only [aCallK, hf, hv]
      · cases hp
    | invoke r m => simp only
    | builtin b => simp only

theorem varLoad_H {op : Op} {fr : List AV} {H H' : List AObj} (hp : varLoad op fr = true) (hH : ∀ (o : Nat) (cs : List AV), H[o]? = some (AObj.var cs) → H'[o]? = some (AObj.var cs)) {k : AV → Prop} (h : aqK P Γ op fr H k) : aqK P Γ op fr H' k := by
  cases op <;> simp only [varLoad, Bool.false_eq_true] at hp
  case load t a =>
    split at hp
    · rename_i o off ha
      have key : ∀ n x, cellsAt H (.ptr o off) n = some x → cellsAt H' (.ptr o off) n = some x := fun n x hx => by
        simp only [cellsAt, List.getD_eq_getElem?_getD] at hx ⊢
        cases ho : H[o]? with
        | none => rw [ho] at hx; simp at hx
        | some y =>
          rw [ho] at hx
          cases y with
          | var cs => rw [hH o cs ho]; exact hx
          | _ => simp at hx
      have key2 : ∀ x, loadA P H t (.ptr o off) = some x → loadA P H' t (.ptr o off) = some x := fun x hx => by
        unfold loadA at hx ⊢
        split at hx
        · split at hx
          · rename_i h1
            rw [key _ _ h1]; exact hx
          · cases hx
        · split at hx
          · rename_i h1
            rw [key _ _ h1]; exact hx
          · cases hx
        · cases hx
      simp only [aqK, aq, ha] at h ⊢
      split at h
      · rename_i p v hl
        rw [key2 _ hl]; exact h
      · exact h.elim
    · cases hp

/-- What makes an operation one that may be run first. -/
def Stable (Γ : Ctx) (ops : Array Oper) (md : Region.Mode) (listed : Array Bool) (i : Nat) (oi : Oper) (s : St) : Prop :=
  wantedA ops oi s = some false ∨ pureOp Γ oi.op s.fr = true ∨ (varLoad oi.op s.fr = true ∧ ∀ j oj, ops[j]? = some oj → j ≠ i → listed.getD j true = false → (∀ e ∈ oj.after, Region.binds md e = true → e.on ≠ i) → turnsVar Γ oj.op = false)

theorem pureOp_congr {op : Op} {fr fr' : List AV} (h : ∀ x ∈ op.operands, Cg.ev fr x = Cg.ev fr' x) : pureOp Γ op fr = pureOp Γ op fr' := by
  cases op <;> simp only [pureOp] <;> simp only [Op.operands] at h
  case load t a => rw [h a (by simp)]
  case slice t x lo hi mx => rw [h x (by simp)]
  case indexAddr t x i => rw [h x (by simp)]
  case call c =>
    obtain ⟨h2, h3⟩ := call_congr (c := c) (by simpa [Op.operands] using h)
    cases hc : c.callee with
    | value f => simp only [h3 f hc, h2]
    | builtin b => cases b <;> rfl
    | invoke r m => rfl

theorem varLoad_congr {op : Op} {fr fr' : List AV} (h : ∀ x ∈ op.operands, Cg.ev fr x = Cg.ev fr' x) : varLoad op fr = varLoad op fr' := by
  cases op <;> simp only [varLoad] <;> simp only [Op.operands] at h
  case load t a => rw [h a (by simp)]

theorem Yld.after {oi oj : Oper} {s s' : St} {v u : AV} {md : Region.Mode} {listed : Array Bool} {i j : Nat} (hj : ops[j]? = some oj) (hji : j ≠ i) (hun : listed.getD j true = false) (hno : ∀ e ∈ oj.after, Region.binds md e = true → e.on ≠ i)
    (hfr : s'.fr = (s.put oj.dst u).fr) (hH : turnsVar Γ oj.op = false → ∀ (k : Nat) (cs : List AV), s.H[k]? = some (AObj.var cs) → s'.H[k]? = some (AObj.var cs)) (hl : ∀ t, oj.dst = some t → t ∉ oi.looksAt ops)
    (hs : Stable Γ ops md listed i oi s) (hy : Yld P Γ ops oi s v) : Yld P Γ ops oi s' v ∧ Stable Γ ops md (listed.setIfInBounds j true) i oi s' := by
  have hev : ∀ x ∈ oi.op.operands, Cg.ev s'.fr x = Cg.ev s.fr x := fun x hx => by rw [hfr]; exact looks_ev hl x hx
  have hw : wantedA ops oi s' = wantedA ops oi s := by
    have h1 : wantedA ops oi s' = wantedA ops oi (s.put oj.dst u) := by unfold wantedA; simp only [hfr]
    rw [h1, wantedA_put hl]
  have hst : Stable Γ ops md (listed.setIfInBounds j true) i oi s' := by
    unfold Stable
    rw [hw, pureOp_congr hev, varLoad_congr hev]
    refine hs.imp id (Or.imp id fun h => ⟨h.1, fun k ok hk hki hun' hno' => h.2 k ok hk hki ?_ hno'⟩)
    by_cases hjk : j = k
    · subst hjk; exact hun
    · rw [getD_set_ne true hjk] at hun'; exact hun'
  refine ⟨?_, hst⟩
  unfold Yld at hy ⊢
  rw [hw, aqK_congr hev]
  rcases hy with ⟨h1, h2⟩ | h
  · refine .inl ⟨h1, ?_⟩
    rcases hs with h | h | ⟨h3, h4⟩
    · rw [h1] at h; cases h
    · rw [pureOp_H h (H' := s.H)]; exact h2
    · exact varLoad_H h3 (hH (h4 j oj hj hji hun hno)) h2
  · exact .inr h

theorem aAny_first {md : Region.Mode} {Q : St → Prop} {i : Nat} {oi : Oper} {v : AV} (hi : ops[i]? = some oi) :
    ∀ (fuel : Nat) (listed : Array Bool) (s : St),
      (∀ j oj, ops[j]? = some oj → j ≠ i → listed.getD j true = false → (∀ e ∈ oj.after, Region.binds md e = true → e.on ≠ i) → oi.apart ops oj = true) →
      Stable Γ ops md listed i oi s → i ∈ Region.ready md ops listed → Yld P Γ ops oi s v → StepR P Γ ops oi s (fun s' => aAny P Γ md ops Q fuel (listed.setIfInBounds i true) s') → aAny P Γ md ops Q fuel (listed.setIfInBounds i true) (s.put oi.dst v) → aAny P Γ md ops Q (fuel + 1) listed s := by
  intro fuel
  induction fuel with
  | zero =>
    intro listed s _ _ hr hy hst H
    refine ⟨fun h => (by rw [h] at hr; cases hr), fun j hj => ?_⟩
    by_cases hji : j = i
    · subst hji; exact ⟨oi, hi, hst⟩
    · have := ready_mono hj hji
      rw [H.1] at this
      cases this
  | succ fuel ih =>
    intro listed s hfree hs hr hy hst H
    refine ⟨fun h => (by rw [h] at hr; cases hr), fun j hj => ?_⟩
    by_cases hji : j = i
    · subst hji; exact ⟨oi, hi, hst⟩
    · obtain ⟨oj, hoj, hstep⟩ := H.2 j (ready_mono hj hji)
      obtain ⟨hjun, oj2, hoj2, hall⟩ := mem_ready.1 hj
      rw [hoj] at hoj2
      cases hoj2
      have hnot : ∀ e ∈ oj.after, Region.binds md e = true → e.on ≠ i := fun e he hb heq => by
        have h1 := hall e he hb
        have h0 := (mem_ready.1 hr).1
        rw [heq] at h1
        rcases Nat.lt_or_ge i listed.size with h' | h'
        · simp [h'] at h0 h1; rw [h0] at h1; cases h1
        · simp [Array.getElem?_eq_none h'] at h1
      obtain ⟨a1, a2, a3⟩ := Oper.apart_spec (hfree j oj hoj hji hjun hnot)
      have hfree' : ∀ k ok, ops[k]? = some ok → k ≠ i → (listed.setIfInBounds j true).getD k true = false →
          (∀ e ∈ ok.after, Region.binds md e = true → e.on ≠ i) → oi.apart ops ok = true := fun k ok hk hki hun hno => by
        refine hfree k ok hk hki ?_ hno
        by_cases hjk : j = k
        · subst hjk; exact hjun
        · rw [getD_set_ne true hjk] at hun; exact hun
      refine ⟨oj, hoj, (StepR.put a1 a2 hstep).imp fun s' u hfr hH hK => ?_⟩
      obtain ⟨hy', hs'⟩ := Yld.after hoj hji hjun hnot hfr hH a3 hs hy
      rw [Array.setIfInBounds_comm _ _ (Ne.symm hji)] at hK
      refine ih (listed.setIfInBounds j true) s' hfree' hs' (ready_mono hr (Ne.symm hji)) hy' ?_ hK
      -- the operation itself, here
      rcases hy' with ⟨h1, h2⟩ | ⟨h1, rfl⟩
      · rcases hs' with h | h | ⟨h3, _⟩
        · rw [h1] at h; cases h
        · refine .inl ⟨h1, ?_⟩
          have hq : aop P Γ oi.op s'.fr s'.H = fun K => aqK P Γ oi.op s'.fr s'.H fun v => K v s'.H := by
            funext K
            generalize oi.op = op at h
            cases op <;> simp only [pureOp, Bool.false_eq_true] at h <;> simp only [aop]
            case binOp bop t x y u =>
              simp only [Bool.not_eq_true'] at h
              rw [h]
              rfl
            case call c =>
              cases hc : c.callee with
              | value f =>
                simp only [hc] at h
                simp only
                split
                · rename_i g caps hf
                  simp only [hf, Bool.and_eq_true] at h
                  split
                  · rename_i hl
                    rw [hl] at h
                    cases h.2
                  · rename_i hl
                    rw [hl] at h
                    cases h.2
                  · rename_i hl
                    rw [hl] at h
                    cases h.2
                  · rfl
                · rfl
              | invoke r m => rfl
              | builtin b => cases b <;> simp only [hc, Bool.false_eq_true] at h <;> simp only
          rw [hq]
          exact aqK_mono (fun v' hv => by subst hv; exact hK) h2
        · refine .inl ⟨h1, ?_⟩
          have hq : aop P Γ oi.op s'.fr s'.H = fun K => aqK P Γ oi.op s'.fr s'.H fun v => K v s'.H := by
            funext K
            generalize oi.op = op at h3
            cases op <;> simp only [varLoad, Bool.false_eq_true] at h3 <;> simp only [aop]
          rw [hq]
          exact aqK_mono (fun v' hv => by subst hv; exact hK) h2
      · exact .inr ⟨h1, hK⟩

/-- Whatever order is picked, of quiet operations. -/
def aQuiet (P : Program) (Γ : Ctx) (md : Region.Mode) (ops : Array Oper) (Q : St → Prop) : Nat → Array Bool → St → Prop
  | 0, listed, s => Region.ready md ops listed = [] ∧ Q s
  | fuel + 1, listed, s => (Region.ready md ops listed = [] → Q s) ∧
      ∀ i ∈ Region.ready md ops listed, ∃ o v, ops[i]? = some o ∧ Yld P Γ ops o s v ∧ aQuiet P Γ md ops Q fuel (listed.setIfInBounds i true) (s.put o.dst v)

theorem wpOp_of_yld (hΓ : CtxOK P Γ) {i : Nat} {o : Oper} (hi : ops[i]? = some o) {s : St} {v : AV} (hy : Yld P Γ ops o s v) {a : Act} {w : World} (hg : G E s a w)
    {K : Act → World → Prop} {Q : Exit → Act → World → Prop} (hK : ∀ a' w', G E (s.put o.dst v) a' w' → K a' w') : wpOp P ops Q i K a w := by
  unfold wpOp
  rw [hi]
  simp only
  rcases hy with ⟨hw, hq⟩ | ⟨hw, rfl⟩
  · rw [if_pos (wanted_of hg hw)]
    exact .inl (wp_of_aqK hΓ hg o (K := fun v' H => v' = v ∧ H = s.H) (aqK_mono (fun v' h => ⟨h, rfl⟩) hq) fun v' H' a' w' ⟨h1, h2⟩ hg' => by subst h1; subst h2; exact hK a' w' hg')
  · rw [if_neg (by rw [wanted_of hg hw]; simp)]
    exact hK _ _ (hg.put_undef _)

theorem aQuiet_sound (hΓ : CtxOK P Γ) {md : Region.Mode} {Q : St → Prop} : ∀ (fuel : Nat) (listed : Array Bool) (s : St) (a : Act) (w : World), aQuiet P Γ md ops Q fuel listed s → G E s a w → wpAny P md ops (atEnd E Q) fuel listed a w
  | 0, _, s, _, _, h, hg => ⟨h.1, s, h.2, hg⟩
  | fuel + 1, _, s, _, _, h, hg => ⟨fun h0 => ⟨s, h.1 h0, hg⟩, fun i hi => by
      obtain ⟨o, v, h1, h2, h4⟩ := h.2 i hi
      exact wpOp_of_yld hΓ h1 h2 hg fun a' w' hg' => aQuiet_sound hΓ fuel _ _ a' w' h4 hg'⟩

theorem aQuiet_first {md : Region.Mode} {Q : St → Prop} {i : Nat} {oi : Oper} {v : AV} (hi : ops[i]? = some oi) :
    ∀ (fuel : Nat) (listed : Array Bool) (s : St),
      (∀ j oj, ops[j]? = some oj → j ≠ i → listed.getD j true = false → (∀ e ∈ oj.after, Region.binds md e = true → e.on ≠ i) → oi.apart ops oj = true) →
      i ∈ Region.ready md ops listed → Yld P Γ ops oi s v → aQuiet P Γ md ops Q fuel (listed.setIfInBounds i true) (s.put oi.dst v) → aQuiet P Γ md ops Q (fuel + 1) listed s := by
  intro fuel
  induction fuel with
  | zero =>
    intro listed s _ hr hy H
    refine ⟨fun h => (by rw [h] at hr; cases hr), fun j hj => ?_⟩
    by_cases hji : j = i
    · subst hji; exact ⟨oi, v, hi, hy, H⟩
    · have := ready_mono hj hji
      rw [H.1] at this
      cases this
  | succ fuel ih =>
    intro listed s hfree hr hy H
    refine ⟨fun h => (by rw [h] at hr; cases hr), fun j hj => ?_⟩
    by_cases hji : j = i
    · subst hji; exact ⟨oi, v, hi, hy, H⟩
    · obtain ⟨oj, u, hoj', hyj, hrest⟩ := H.2 j (ready_mono hj hji)
      obtain ⟨hjun, oj2, hoj, hall⟩ := mem_ready.1 hj
      rw [hoj'] at hoj
      cases hoj
      have hnot : ∀ e ∈ oj.after, Region.binds md e = true → e.on ≠ i := fun e he hb heq => by
        have h1 := hall e he hb
        have h0 := (mem_ready.1 hr).1
        rw [heq] at h1
        rcases Nat.lt_or_ge i listed.size with h' | h'
        · simp [h'] at h0 h1; rw [h0] at h1; cases h1
        · simp [Array.getElem?_eq_none h'] at h1
      obtain ⟨a1, a2, a3⟩ := Oper.apart_spec (hfree j oj hoj' hji hjun hnot)
      have hyj' : Yld P Γ ops oj s u := (Yld.put a1).1 hyj
      have hyi' : Yld P Γ ops oi (s.put oj.dst u) v := (Yld.put a3).2 hy
      have hfree' : ∀ k ok, ops[k]? = some ok → k ≠ i → (listed.setIfInBounds j true).getD k true = false →
          (∀ e ∈ ok.after, Region.binds md e = true → e.on ≠ i) → oi.apart ops ok = true := fun k ok hk hki hun hno => by
        refine hfree k ok hk hki ?_ hno
        by_cases hjk : j = k
        · subst hjk; exact hjun
        · rw [getD_set_ne true hjk] at hun; exact hun
      refine ⟨oj, u, hoj', hyj', ih (listed.setIfInBounds j true) _ hfree' (ready_mono hr (Ne.symm hji)) hyi' ?_⟩
      rw [Array.setIfInBounds_comm _ _ hji, ← put_comm s v u a2]
      exact hrest

theorem aQuiet_lex {md : Region.Mode} {Q : St → Prop} : ∀ (l : List Oper) (k : Nat) (listed : Array Bool) (s : St), (∀ o ∈ l, quietOp Γ o.op = true) → (∀ j, l[j]? = ops[k + j]?) →
    Region.lexFrom md ops l.length k listed = true → wpL P Γ ops l Q s → aQuiet P Γ md ops Q l.length listed s
  | [], _, _, _, _, _, hB, h => ⟨by simpa [Region.lexFrom] using hB, h⟩
  | o :: l, k, listed, s, hq, hl, hB, h => by
    have h0 : ops[k]? = some o := by simpa using (hl 0).symm
    simp only [List.length_cons, Region.lexFrom, Bool.and_eq_true] at hB
    obtain ⟨⟨hr, hf⟩, hB'⟩ := hB
    obtain ⟨v, hy, hK⟩ := stepR_quiet (hq o (by simp)) (stepK_R h)
    exact aQuiet_first h0 l.length listed s (Region.free_spec h0 hf) (by simpa using hr) hy
      (aQuiet_lex l (k + 1) _ _ (fun o' ho' => hq o' (by simp [ho'])) (fun j => by have := hl (j + 1); simpa [Nat.add_assoc, Nat.add_comm 1 j] using this) hB' hK)

theorem firstB_some {f : Nat → Bool} : ∀ {l : List Nat} {i : Nat}, firstB f l = some i → i ∈ l ∧ f i = true
  | [], _, h => by cases h
  | j :: l, i, h => by
    unfold firstB at h
    cases hf : f j
    · rw [hf] at h
      obtain ⟨h1, h2⟩ := firstB_some h
      exact ⟨List.mem_cons_of_mem _ h1, h2⟩
    · rw [hf] at h
      cases h
      exact ⟨List.mem_cons_self, hf⟩

theorem allP_mem {f : Nat → Prop} : ∀ {l : List Nat}, allP f l → ∀ i ∈ l, f i
  | [], _, _, h => by cases h
  | [j], h, i, hi => by
    cases List.mem_cons.1 hi with
    | inl e => subst e; exact h
    | inr e => cases e
  | j :: k :: l, h, i, hi => by
    cases List.mem_cons.1 hi with
    | inl e => subst e; exact h.1
    | inr e => exact allP_mem h.2 i e

theorem movable_spec {listed : Array Bool} {s : St} {i : Nat} {o : Oper} (hi : ops[i]? = some o) (h : movable Γ ops listed s i = true) :
    Region.free .any ops listed i = true ∧ Stable Γ ops .any listed i o s ∧ ((wantedA ops o s = some true ∧ (pureOp Γ o.op s.fr = true ∨ varLoad o.op s.fr = true)) ∨ wantedA ops o s = some false) := by
  unfold movable at h
  rw [hi] at h
  simp only [Bool.and_eq_true] at h
  obtain ⟨h1, h2⟩ := h
  refine ⟨h1, ?_⟩
  split at h2
  · rename_i hw
    simp only [Bool.or_eq_true, Bool.and_eq_true] at h2
    refine ⟨.inr (h2.imp id fun h => ⟨h.1, fun j oj hj hji hun hno => ?_⟩), .inl ⟨hw, h2.imp id fun h => h.1⟩⟩
    have := List.all_eq_true.1 h.2 j (List.mem_range.2 (Array.getElem?_eq_some_iff.1 hj).1)
    simp only [hj, hun, Bool.or_false, Bool.or_eq_true, Bool.not_eq_true'] at this
    rcases this with h3 | h3 | h3
    · exact absurd (beq_iff.1 h3) hji
    · exact h3
    · obtain ⟨e, he, h4⟩ := Array.any_eq_true'.1 h3
      simp only [Bool.and_eq_true] at h4
      exact absurd (beq_iff.1 h4.2) (hno e he h4.1)
  · rename_i hw; exact ⟨.inl hw, .inr hw⟩
  · cases h2

theorem quiet_of_pure {op : Op} {fr : List AV} {H : List AObj} {K : AV → List AObj → Prop} (h : pureOp Γ op fr = true ∨ varLoad op fr = true) (ha : aop P Γ op fr H K) : aqK P Γ op fr H fun v => K v H := by
  rcases h with h | h
  · cases op <;> simp only [pureOp, Bool.false_eq_true] at h <;> simp only [aop] at ha <;> (try exact ha)
    case binOp bop t x y u =>
      simp only [Bool.not_eq_true'] at h
      rw [h] at ha
      exact ha
    case call c =>
      cases hc : c.callee with
      | value f =>
        simp only [hc] at h ha
        split at ha
        · rename_i g caps hf
          simp only [hf, Bool.and_eq_true] at h
          split at ha
          · rename_i hl
            rw [hl] at h
            cases h.2
          · rename_i hl
            rw [hl] at h
            cases h.2
          · rename_i hl
            rw [hl] at h
            cases h.2
          · exact ha
        · exact ha
      | invoke r m => simp only [hc] at ha; exact ha
      | builtin b => cases b <;> simp only [hc, Bool.false_eq_true] at h <;> simp only [hc] at ha <;> exact ha
  · cases op <;> simp only [varLoad, Bool.false_eq_true] at h <;> simp only [aop] at ha
    exact ha

theorem put_sameB {s : St} {d : Tmp} {c : Bool} (hc : s.fr.getD d .any = .v (.bool c)) : s.put (some d) (.v (.bool c)) = s := by
  unfold St.put
  simp only
  congr 1
  apply List.ext_getElem?
  intro k
  by_cases hk : d = k
  · subst hk
    cases hl : s.fr[d]? with
    | none => rw [List.getElem?_eq_none (by rw [List.length_set]; exact List.getElem?_eq_none_iff.1 hl)]
    | some a =>
      rw [List.getD_eq_getElem?_getD, hl] at hc
      rw [List.getElem?_set_self (List.getElem?_eq_some_iff.1 hl).1]
      simp only [Option.getD_some] at hc
      rw [hc]
  · exact List.getElem?_set_ne hk
theorem splitG_elim {i : Nat} {s : St} {K : St → Prop} (h : splitG ops i s K) : K s := by
  unfold splitG at h
  generalize (ops.toList.any fun o => match o.guard with | some (j, _) => Nat.beq j i | none => false) = b at h
  cases b with
  | false => exact h
  | true =>
    simp only [cond_true] at h
    split at h
    · rename_i d _
      split at h
      · rename_i c hc
        have e := put_sameB hc
        cases c with
        | true => rw [← e]; exact h
        | false => rw [← e]; exact h
      · exact h
    · exact h

theorem aRun_any {Q : St → Prop} : ∀ (fuel : Nat) (listed : Array Bool) (s : St), aRun P Γ ops Q fuel listed s → aAny P Γ .any ops Q fuel listed s
  | 0, listed, s, h => by
    simp only [aRun] at h
    obtain ⟨h1, h2⟩ := bif_true h
    exact ⟨by simpa using h1, h2⟩
  | fuel + 1, listed, s, h => by
    simp only [aRun] at h
    split at h
    · rename_i i hi
      obtain ⟨hr, hm⟩ := firstB_some hi
      split at h
      · rename_i o ho
        obtain ⟨hf, hs, hw⟩ := movable_spec ho hm
        have hst := stepK_R h
        have hst' : StepR P Γ ops o s fun s' => aAny P Γ .any ops Q fuel (listed.setIfInBounds i true) s' := hst.mono fun s' h => aRun_any fuel _ s' (splitG_elim h)
        have hyv : ∃ v, Yld P Γ ops o s v ∧ aAny P Γ .any ops Q fuel (listed.setIfInBounds i true) (s.put o.dst v) := by
          rcases hst' with ⟨h1, h2⟩ | ⟨h1, h2⟩
          · rcases hw with ⟨_, hp⟩ | hw
            · obtain ⟨v, h3, h4⟩ := aqK_ex (quiet_of_pure hp h2)
              exact ⟨v, .inl ⟨h1, h3⟩, h4⟩
            · rw [h1] at hw; cases hw
          · exact ⟨_, .inr ⟨h1, rfl⟩, h2⟩
        obtain ⟨v, hy, hK⟩ := hyv
        exact aAny_first ho fuel listed s (Region.free_spec ho hf) hs hr hy hst' hK
      · exact h.elim
    · split at h
      · rename_i hr
        exact ⟨fun _ => h, fun i hi => by rw [hr] at hi; cases hi⟩
      · rename_i rs hne
        refine ⟨fun h0 => absurd h0 hne, fun i hi => ?_⟩
        have h1 := allP_mem h i hi
        split at h1
        · rename_i o ho
          exact ⟨o, ho, (stepK_R h1).mono fun s' h => aRun_any fuel _ s' (splitG_elim h)⟩
        · exact h1.elim

theorem G.drawn {st : St} {a : Act} {w : World} (hg : G E st a w) (d : Nat) : G E st a { w with drawn := d } := by
  obtain ⟨S, μ, g⟩ := hg
  exact ⟨S, μ, g.ext_same (Ext.drawn w d)⟩

/-- A region. -/
theorem region_sound (hm : P.follows .mixedOrders = true) (hΓ : CtxOK P Γ) {base : Nat} (hb : E.H.length = base) {id : Nat} {draw : Bool} {Q : St → Prop} {st : St} {a : Act} {w : World} (hg : G E st a w)
    (h : bif draw then (bif ops.toList.all (fun o => quietOp Γ o.op) && Region.lexB .any ops then wpL P Γ ops ops.toList Q st else aRun P Γ ops Q ops.size (Array.replicate ops.size false) st) else wpD P Γ base ops ops.toList Q st) :
    (Code.region id ops draw).wp P (atEnd E Q) a w := by
  cases draw
  · simp only [cond_false] at h
    exact wp_region_list (wpD_sound hΓ hb _ h hg)
  · simp only [cond_true] at h
    cases hB : ops.toList.all (fun o => quietOp Γ o.op) && Region.lexB .any ops
    · rw [hB] at h
      exact wp_region_any hm (aAny_sound hΓ _ _ _ _ _ (aRun_any _ _ _ h) (hg.drawn _))
    simp only [hB, cond_true] at h
    simp only [Bool.and_eq_true, Region.lexB] at hB
    refine wp_region_any hm (aQuiet_sound hΓ _ _ _ _ _ ?_ (hg.drawn _))
    have := aQuiet_lex (md := .any) ops.toList 0 (Array.replicate ops.size false) st (fun o ho => List.all_eq_true.1 hB.1 o ho) (by simp) (by simpa using hB.2.2) h
    simpa using this

end
end Cg

/-
  Code of the machine, held against the model's: loops by what is known at their heads. No condition.
-/
namespace Cg
open Go

section
variable {w : World}

theorem G.thM {E : Ent} {σ : Sg} {fr : List AV} {a : Act} : ∀ (T : List AObj) (k : Nat) (H : List AObj), G E ⟨fr, H⟩ a w → G E ⟨fr, Cg.thM σ k T H⟩ a w
  | [], _, _, hg => hg
  | .arr _ _ _ :: r, k, H, hg => by
    unfold Cg.thM
    refine G.thM r (k + 1) _ ?_
    split
    · rename_i o _
      obtain ⟨S, μ, g⟩ := hg
      obtain ⟨S', _, g'⟩ := g.thO o
      exact ⟨S', μ, g'⟩
    · exact hg
  | .dead :: r, k, H, hg => G.thM r (k + 1) H hg
  | .var _ :: r, k, H, hg => G.thM r (k + 1) H hg
  | .fro _ _ _ :: r, k, H, hg => G.thM r (k + 1) H hg
  | .xarr _ _ _ :: r, k, H, hg => G.thM r (k + 1) H hg

/-- A state that says less. -/
theorem G.weaken {E : Ent} {s t : St} {a : Act} {base : Nat} (hb : E.H.length = base) (hg : G E s a w) (h : s.leL base t) : G E t a w := by
  unfold St.leL St.leS at h
  generalize sigma base s t = σ at h
  replace hg : G E ⟨s.fr, Cg.thM σ 0 t.H s.H⟩ a w := G.thM t.H 0 s.H hg
  generalize (⟨s.fr, Cg.thM σ 0 t.H s.H⟩ : St) = s at h hg
  obtain ⟨S, μ, g⟩ := hg
  obtain ⟨hfb, hfr, hH⟩ := bif_true h
  have hf := fit_of hfb
  refine ⟨S, muS σ μ t.H, ⟨g.defers, frLeT_sound g.hok (fun _ _ h => muS_some h) (fun _ h => muS_none h) hfr g.fr, fun k hk => (below_ment hk).2 _ hf.fr, g.hok.le hf hH, g.sub, g.new, fun o ho => ?_, by rw [hb]; exact hf.le, g.kept, fun k b hk => ?_⟩⟩
  · rw [muS_some (hf.old o (by omega))]
    exact g.mu o ho
  · obtain ⟨o, h1, h2⟩ := own_le hH hk
    exact g.mines o b h2

end

theorem exists_min {p : Nat → Prop} (h : ∃ n, p n) : ∃ n, p n ∧ ∀ k, p k → n ≤ k := by
  obtain ⟨n, hn⟩ := h
  induction n using Nat.strongRecOn with
  | _ n ih =>
    by_cases h : ∃ k, k < n ∧ p k
    · obtain ⟨k, hk, hp⟩ := h
      exact ih k hk hp
    · exact ⟨n, hn, fun k hk => Nat.le_of_not_lt fun hlt => h ⟨k, hlt, hk⟩⟩

section
variable {P : Program} {E : Ent} {base : Nat} {Γ : Ctx}

/-- What is asked at the code's ends. -/
def Ends (E : Ent) (Q : Exit → St → Prop) (e : Exit) (a : Act) (w : World) : Prop := ∃ st, Q e st ∧ G E st a w

theorem wp_loop_any {c : Code} {Q : Exit → Act → World → Prop} {X : Type} (I : X → Act → World → Prop) (m : X → Nat) {a : Act} {w : World} (h₀ : ∃ x, I x a w)
    (round : ∀ x a w, I x a w → c.wp P (Exit.then (fun a' w' => ∃ x', m x' < m x ∧ I x' a' w') Q) a w) : (Code.loop c).wp P Q a w := by
  let p : Act → World → Nat → Prop := fun a w n => ∃ x, m x = n ∧ I x a w
  let μ : Act → World → Nat := fun a w => open Classical in if h : ∃ n, p a w n then Classical.choose (exists_min h) else 0
  have hμ : ∀ a w, (∃ x, I x a w) → (∃ x, m x = μ a w ∧ I x a w) ∧ ∀ x, I x a w → μ a w ≤ m x := fun a w ⟨x, hx⟩ => by
    have h : ∃ n, p a w n := ⟨m x, x, rfl, hx⟩
    have e : μ a w = Classical.choose (exists_min h) := dif_pos h
    obtain ⟨h1, h2⟩ := Classical.choose_spec (exists_min h)
    rw [e]
    exact ⟨h1, fun y hy => h2 _ ⟨y, rfl, hy⟩⟩
  refine wp_loop (fun a w => ∃ x, I x a w) μ h₀ fun a w hI => ?_
  obtain ⟨⟨x, hx, hIx⟩, _⟩ := hμ a w hI
  refine wp_mono (round x a w hIx) fun e a' w' he => ?_
  cases e with
  | normal =>
    obtain ⟨x', hlt, hI'⟩ := he
    exact ⟨⟨x', hI'⟩, Nat.lt_of_le_of_lt ((hμ a' w' ⟨x', hI'⟩).2 x' hI') (hx ▸ hlt)⟩
  | _ => exact he

theorem awp_sound (hm : P.follows .mixedOrders = true) (hΓ : CtxOK P Γ) (hb : E.H.length = base) : ∀ (c : Code) (an : List Ann) (Q : Exit → St → Prop) (s : St) (a : Act) (w : World),
    awp P Γ base c an Q s → G E s a w → c.wp P (Ends E Q) a w
  | .skip, _, _, s, _, _, h, hg => wp_skip ⟨s, h, hg⟩
  | .region id ops draw, _, Q, s, a, w, h, hg => by
    simp only [awp] at h
    exact wp_mono (region_sound hm hΓ hb hg h) fun e a w he => by cases e <;> first | exact he | exact he.elim
  | .seq c d, an, Q, s, a, w, h, hg => by
    simp only [awp] at h
    refine wp_seq (wp_mono (awp_sound hm hΓ hb c an _ s a w h hg) fun e a w he => ?_)
    obtain ⟨st, hq, hg'⟩ := he
    cases e with
    | normal => exact awp_sound hm hΓ hb d _ Q st a w hq hg'
    | _ => exact ⟨st, hq, hg'⟩
  | .cond c x y, an, Q, s, a, w, h, hg => by
    simp only [awp] at h
    split at h
    · rename_i t ht
      have hev : a.eval c = .bool t := by
        obtain ⟨S, μ, g⟩ := hg
        have := g.ev c
        rw [ht] at this
        exact this
      refine wp_cond hev ?_
      cases t
      · exact awp_sound hm hΓ hb y _ Q s a w h hg
      · exact awp_sound hm hΓ hb x _ Q s a w h hg
    · exact h.elim
  | .block id c, an, Q, s, a, w, h, hg => by
    simp only [awp] at h
    refine wp_block (wp_mono (awp_sound hm hΓ hb c an _ s a w h hg) fun e a w he => ?_)
    obtain ⟨st, hq, hg'⟩ := he
    cases e with
    | exit id' =>
      simp only [Exit.inBlock]
      simp only at hq
      by_cases hid : id' = id
      · rw [beq_iff.2 hid] at hq
        rw [if_pos hid]
        exact ⟨st, hq, hg'⟩
      · rw [if_neg hid]
        cases hbq : Nat.beq id' id
        · rw [hbq] at hq; exact ⟨st, hq, hg'⟩
        · exact absurd (beq_iff.1 hbq) hid
    | _ => exact ⟨st, hq, hg'⟩
  | .loop c, an, Q, s, a, w, h, hg => by
    simp only [awp] at h
    split at h
    · rename_i X pre st m inner _
      obtain ⟨⟨x, hx, hle⟩, hround⟩ := h
      refine wp_loop_any (fun (x : X) a w => pre x ∧ G E (st x) a w) m ⟨x, hx, hg.weaken hb hle⟩ fun x a w ⟨hpx, hgx⟩ => ?_
      refine wp_mono (awp_sound hm hΓ hb c (inner x) _ (st x) a w (hround x hpx) hgx) fun e a' w' he => ?_
      obtain ⟨st', hq, hg'⟩ := he
      cases e with
      | normal =>
        obtain ⟨x', h1, h2, h3⟩ := hq
        exact ⟨x', h2, h1, hg'.weaken hb h3⟩
      | _ => exact ⟨st', hq, hg'⟩
    · exact h.elim
  | .exit id, _, _, s, _, _, h, hg => wp_exit ⟨s, h, hg⟩
  | .ret, _, _, s, _, _, h, hg => wp_ret ⟨s, h, hg⟩
  | .rangeFunc _ _ _ _, _, _, _, _, _, h, _ => by simp [awp] at h
  | .scope _, _, _, _, _, _, h, _ => by simp [awp] at h
  | .label _, _, _, _, _, _, h, _ => by simp [awp] at h
  | .goto _, _, _, _, _, _, h, _ => by simp [awp] at h
  | .refuse _, _, _, _, _, _, h, _ => by simp [awp] at h

end
end Cg

/-
  A function's code and its call. No condition.
-/
namespace Cg
open Go

section
variable {P : Program} {S : Nat → Prop} {μ : Nat → OI} {w : World}

theorem tmp_getD {fr : List AV} {tmps : Array Value} (h : RelL S μ w fr tmps.toList) (t : Nat) : Rel S μ w (fr.getD t .any) (tmps.getD t undef) := by
  rw [List.getD_eq_getElem?_getD]
  cases ht : fr[t]? with
  | none => trivial
  | some v =>
    obtain ⟨y, hy, hr⟩ := RelL_get h ht
    have : tmps.getD t undef = y := by rw [Array.getD_eq_getD_getElem?, ← Array.getElem?_toList, hy]; rfl
    rw [this]
    exact hr

theorem result_sound {s : St} (hH : HOK S μ w s.H) {tmps : Array Value} (hf : RelL S μ w s.fr tmps.toList) {rv : ResultVar} {p : List Prop} {r : AV} (h : resultA P s rv = some (p, r)) (hp : ∀ q ∈ p, q) :
    ∃ y, ((match rv with | .tmp t => pure (tmps.getD t undef) | .cell a t => do loadVar t (← asAddr (tmps.getD a undef))) : Sem Value).run P w = .ok y w ∧ Rel S μ w r y := by
  cases rv with
  | tmp t =>
    simp only [resultA, Option.some.injEq, Prod.mk.injEq] at h
    obtain ⟨rfl, rfl⟩ := h
    exact ⟨_, rfl, tmp_getD hf t⟩
  | cell a t =>
    simp only [resultA] at h
    obtain ⟨x, h1, h2⟩ := loadA_sound (P := P) h hp hH (tmp_getD hf a)
    refine ⟨x, ?_, h2⟩
    cases hy : tmps.getD a undef with
    | pointer b =>
      rw [hy] at h1
      cases b with
      | none => simp [Instr.loadAt, Instr.sureAddr] at h1
      | some b =>
        show Sem.run P (do loadVar t (← asAddr (tmps.getD a undef))) w = .ok x w
        rw [hy]
        simpa [Instr.loadAt, Instr.sureAddr, asAddr] using h1
    | _ => rw [hy] at h1; simp [Instr.loadAt, Instr.sureAddr] at h1

theorem resultsL_sound {s : St} (hH : HOK S μ w s.H) {tmps : Array Value} (hf : RelL S μ w s.fr tmps.toList) : ∀ {rs : List ResultVar} {p : List Prop} {as : List AV}, resultsL P s rs = some (p, as) → (∀ q ∈ p, q) →
    ∃ ys : List Value, (rs.mapM (fun rv => match rv with | .tmp t => pure (tmps.getD t undef) | .cell a t => do loadVar t (← asAddr (tmps.getD a undef)) : ResultVar → Sem Value)).run P w = .ok ys w ∧ RelL S μ w as ys
  | [], p, as, h, _ => by
    simp only [resultsL, Option.some.injEq, Prod.mk.injEq] at h
    obtain ⟨rfl, rfl⟩ := h
    exact ⟨[], rfl, rfl⟩
  | r :: rs, p, as, h, hp => by
    unfold resultsL at h
    split at h
    · rename_i p1 a q as' h1 h2
      simp only [Option.some.injEq, Prod.mk.injEq] at h
      obtain ⟨rfl, rfl⟩ := h
      obtain ⟨y, h3, h4⟩ := result_sound hH hf h1 (fun q hq => hp q (List.mem_append_left _ hq))
      obtain ⟨ys, h5, h6⟩ := resultsL_sound hH hf h2 (fun q hq => hp q (List.mem_append_right _ hq))
      refine ⟨y :: ys, ?_, y, ys, rfl, h4, h6⟩
      rw [List.mapM_cons]
      simp only [Sem.run_bind]
      rw [h3]
      simp only [Result.andThen_ok, h5, Sem.run_pure]
    · cases h

theorem results_sound {fn : Func} {s : St} (hH : HOK S μ w s.H) {tmps : Array Value} (hf : RelL S μ w s.fr tmps.toList) {p : List Prop} {r : AV} (h : resultsA P fn s = some (p, r)) (hp : ∀ q ∈ p, q) :
    ∃ y, (results fn tmps).run P w = .ok y w ∧ Rel S μ w r y := by
  unfold resultsA at h
  have fin : ∀ (q : List Prop) (as : List AV), resultsL P s fn.results.toList = some (q, as) → (∀ x ∈ q, x) → ∃ ys : List Value, RelL S μ w as ys ∧ (results fn tmps).run P w = .ok (if h : ys.toArray.size = 1 then ys.toArray[0] else .tuple ys.toArray) w := fun q as hl hq => by
    obtain ⟨ys, h1, h2⟩ := resultsL_sound hH hf hl hq
    refine ⟨ys, h2, ?_⟩
    unfold results
    rw [Array.mapM_eq_mapM_toList]
    simp only [Sem.run_bind, Sem.run_map]
    erw [h1]
    rfl
  split at h
  · rename_i q a hl
    simp only [Option.some.injEq, Prod.mk.injEq] at h
    obtain ⟨rfl, rfl⟩ := h
    obtain ⟨ys, ⟨y, _, rfl, h1, rfl⟩, h2⟩ := fin _ _ hl hp
    exact ⟨y, by rw [h2]; rfl, h1⟩
  · rename_i q as hne hl
    simp only [Option.some.injEq, Prod.mk.injEq] at h
    obtain ⟨rfl, rfl⟩ := h
    obtain ⟨ys, h1, h2⟩ := fin _ _ hl hp
    refine ⟨.tuple ys.toArray, ?_, ys, rfl, h1⟩
    rw [h2, dif_neg]
    intro h1s
    have : as.length = 1 := by rw [← RelL_length h1]; simpa using h1s
    cases as with
    | nil => cases this
    | cons a as => cases as with
      | nil => exact hne _ rfl
      | cons => simp at this
  · cases h

theorem view0_free (H : List AObj) (k : Nat) (a : AV) : ment k (view0 H a).2 = false := by
  unfold view0
  split
  · split <;> rfl
  · rfl
  · rfl
  · rfl
  · rfl
  · rfl

theorem viewL_free {f : AV → List Prop × AV} {k : Nat} (hf : ∀ a, ment k (f a).2 = false) : ∀ as : List AV, mentL k (viewL f as).2 = false
  | [] => rfl
  | a :: as => by simp [viewL, mentL, hf a, viewL_free hf as]

theorem view1_free (H : List AObj) (k : Nat) (a : AV) : ment k (view1 H a).2 = false := by
  unfold view1
  split
  · split <;> rfl
  · rfl
  · exact view0_free H k _

theorem viewG_free (H : List AObj) (k : Nat) (a : AV) : ment k (viewG H a).2 = false := by
  unfold viewG
  split
  · exact viewL_free (view0_free H k) _
  · exact view0_free H k _

theorem view2_free (H : List AObj) (k : Nat) (a : AV) : ment k (view2 H a).2 = false := by
  unfold view2
  split
  · exact viewL_free (view0_free H k) _
  · exact viewL_free (viewG_free H k) _
  · exact viewL_free (view1_free H k) _
  · exact view1_free H k _

/-- What a call of a function gives whose code the machine has gone through. -/
theorem awpF_sound {Γ : Ctx} (hm : P.follows .mixedOrders = true) (hΓ : CtxOK P Γ) {an : List Ann} {f : FuncId} {args : List AV} {K : AV → Prop} (h : awpF P Γ an f args K)
    {vals : List Value} (hin : ∀ b, S b → b < w.heap.size) (hgl : Gl S w) (hx : RelL S mu0 w args vals) :
    Calls P f vals.toArray w (fun e w' => ∃ y S' r, e = .returned y ∧ K r ∧ (∀ k, ment k r = false) ∧ After S mu0 w r y w' S') := by
  unfold awpF at h
  split at h
  case h_2 => exact h.elim
  rename_i fn hf
  split at h
  case h_2 => exact h.elim
  rename_i c hc
  cases hbl : belowL 0 args
  · rw [hbl] at h; exact h.elim
  rw [hbl] at h
  simp only [cond_true] at h
  let E : Ent := ⟨S, mu0, [], w⟩
  have hnl : ∀ o, ¬ LiveAt ([] : List AObj) o := fun o ho => by have := ho.lt; simp at this
  have hno : ∀ o b, ¬ Own mu0 ([] : List AObj) o b := fun o b ho => hnl o ho.live
  have hnb : ∀ b, ¬ Blk mu0 [] b := fun b ⟨o, ho⟩ => hno o b ho
  have hok : HOK S mu0 w [] := ⟨fun o x ho => by simp at ho, fun o cs ho => by simp at ho, fun o o' b _ ho => absurd ho (hno o b), fun o b ho => absurd ho (hno o b), hin, hgl⟩
  have hmem : ∀ (n : Nat), mentL n (List.replicate (fn.ntmps - args.length) (AV.v undef)) = false := fun n => mentL_of fun a ha => by rw [(List.mem_replicate.1 ha).2]; rfl
  have hvl := RelL_length hx
  have hg : G E { fr := args ++ List.replicate (fn.ntmps - args.length) (.v undef), H := [] } { tmps := vals.toArray ++ Array.replicate (fn.ntmps - vals.toArray.size) undef, defers := [] } w :=
    ⟨S, mu0, ⟨rfl, by
      have e1 : (vals.toArray ++ Array.replicate (fn.ntmps - vals.toArray.size) undef).toList = vals ++ List.replicate (fn.ntmps - args.length) undef := by simp [hvl]
      rw [e1]
      exact RelL_append hx (RelL_replicate (a := .v undef) (y := undef) rfl _),
      fun k _ => mentL_append ((below_ment (Nat.zero_le k)).2 _ hbl) (hmem k), hok, fun _ h => h, fun _ h => .inl h, fun _ _ => rfl, Nat.le_refl _, Kept.refl _ _ _, fun o b ho => absurd ho (hno o b)⟩⟩
  refine calls_of_wp hf hc (wp_mono (awp_sound (E := E) hm hΓ rfl c an _ _ _ _ h hg) fun e a w' he => ?_)
  obtain ⟨st, hq, S', μ', g⟩ := he
  have fin : (match resultsA P fn st with | some (p, r) => need p (match view2 st.H r with | (q, r') => need q (K r')) | none => False) → a.defers = [] ∧ ∃ v, (results fn a.tmps).run P w' = .ok v w' ∧ ∃ y S' r, (Ending.returned v) = .returned y ∧ K r ∧ (∀ k, ment k r = false) ∧ After S mu0 w r y w' S' := fun hq => by
    split at hq
    case h_2 => exact hq.elim
    rename_i p r hr
    obtain ⟨hp, hq⟩ := need_elim hq
    obtain ⟨y, h1, h2⟩ := results_sound g.hok g.fr hr hp
    obtain ⟨hp2, hK⟩ := need_elim hq
    refine ⟨g.defers, y, h1, y, Lent S' μ' st.H, _, rfl, hK, fun k => view2_free _ k _, ⟨g.kept.os, g.kept.tape, g.kept.output, g.kept.size, fun b hb => g.kept.block b hb (hnb b)⟩, fun b hb => .inl (g.sub b hb), fun b hb => ?_, lent_lt g.hok, view2_sound g.hok hp2 h2⟩
    rcases hb with hb | ⟨o, ho⟩
    · rcases g.new b hb with h | h | h
      · exact .inl h
      · exact .inr h
      · exact absurd h (hnb b)
    · rcases g.mines o b ho with h | h
      · exact .inr h
      · exact absurd h (hnb b)
  cases e with
  | normal => exact fin hq
  | ret => exact fin hq
  | _ => exact hq.elim

/-- A function's contract out of its code. -/
theorem pure_of {Γ : Ctx} (hm : P.follows .mixedOrders = true) (hΓ : CtxOK P Γ) {f : FuncId} {args : List AV} {r : AV} (an : List Ann) (h : awpF P Γ an f args (fun r' => avLe [] r' r)) : PureAt P f args r := fun S w vals hin hgl hx =>
  (awpF_sound hm hΓ h hin hgl hx).mono fun e w' he => by
    obtain ⟨y, S', r', rfl, hle, hmt, h1, h2, h3, h4, h5⟩ := he
    exact ⟨y, S', rfl, h1, h2, h3, h4, avLe_plain (fun _ => rfl) hle h5⟩

/-- Some of the objects. -/
def SubH (H H' : List AObj) : Prop := H'.length = H.length ∧ ∀ (o : Nat) (x : AObj), H'[o]? = some x → x = .dead ∨ H[o]? = some x

theorem keepH_get (σ : Sg) : ∀ (k : Nat) (H : List AObj) (o : Nat), (keepH σ k H)[o]? = (H[o]?).map fun x => bif inR σ (k + o) then x else .dead
  | _, [], _ => by simp [keepH]
  | k, x :: H, o => by
    cases o with
    | zero => simp [keepH]
    | succ o => simp only [keepH, List.getElem?_cons_succ, keepH_get σ (k + 1) H o]; rw [show k + 1 + o = k + (o + 1) by omega]
theorem dropH_get (σ : Sg) : ∀ (k : Nat) (H : List AObj) (o : Nat), (dropH σ k H)[o]? = (H[o]?).map fun x => bif inR σ (k + o) then .dead else x
  | _, [], _ => by simp [dropH]
  | k, x :: H, o => by
    cases o with
    | zero => simp [dropH]
    | succ o => simp only [dropH, List.getElem?_cons_succ, dropH_get σ (k + 1) H o]; rw [show k + 1 + o = k + (o + 1) by omega]
theorem keepH_len (σ : Sg) : ∀ (k : Nat) (H : List AObj), (keepH σ k H).length = H.length
  | _, [] => rfl
  | k, x :: H => by simp [keepH, keepH_len σ (k + 1) H]
theorem dropH_len (σ : Sg) : ∀ (k : Nat) (H : List AObj), (dropH σ k H).length = H.length
  | _, [] => rfl
  | k, x :: H => by simp [dropH, dropH_len σ (k + 1) H]
theorem keepH_sub (σ : Sg) (k : Nat) (H : List AObj) : SubH H (keepH σ k H) := ⟨keepH_len σ k H, fun o x h => by
  rw [keepH_get] at h
  cases ho : H[o]? with
  | none => rw [ho] at h; simp at h
  | some y =>
    rw [ho] at h
    simp only [Option.map_some, Option.some.injEq] at h
    cases hr : inR σ (k + o)
    · rw [hr] at h; exact .inl h.symm
    · rw [hr] at h; exact .inr (by rw [← h]; rfl)⟩
theorem dropH_sub (σ : Sg) (k : Nat) (H : List AObj) : SubH H (dropH σ k H) := ⟨dropH_len σ k H, fun o x h => by
  rw [dropH_get] at h
  cases ho : H[o]? with
  | none => rw [ho] at h; simp at h
  | some y =>
    rw [ho] at h
    simp only [Option.map_some, Option.some.injEq] at h
    cases hr : inR σ (k + o)
    · rw [hr] at h; exact .inr (by rw [← h]; rfl)
    · rw [hr] at h; exact .inl h.symm⟩

theorem liveSub {H H' : List AObj} (h : SubH H H') {o : Nat} (hl : LiveAt H' o) : LiveAt H o := by
  rcases LiveAt_iff.1 hl with ⟨cs, h1⟩ | ⟨n, e, c, h1 | h1⟩ <;> rcases h.2 o _ h1 with h2 | h2 <;> first | cases h2 | exact LiveAt_iff.2 (.inl ⟨_, h2⟩) | exact LiveAt_iff.2 (.inr ⟨_, _, _, .inl h2⟩) | exact LiveAt_iff.2 (.inr ⟨_, _, _, .inr h2⟩)
theorem ownSub {H H' : List AObj} (h : SubH H H') {o b : Nat} (hb : Own μ H' o b) : Own μ H o b := by
  obtain ⟨x, h1, h2⟩ := hb
  rcases h.2 o x h1 with rfl | h3
  · exact h2.elim
  · exact ⟨x, h3, h2⟩

theorem HOK.sub {H H' : List AObj} (h : HOK S μ w H) (hs : SubH H H') : HOK S μ w H' where
  obj o x ho := by
    rcases hs.2 o x ho with rfl | h1
    · trivial
    · exact h.obj o x h1
  ids o cs ho k hk := by
    rcases hs.2 o _ ho with h1 | h1
    · cases h1
    · exact h.ids o cs h1 k (by rw [← hs.1]; exact hk)
  seps o o' b hne h1 h2 := h.seps o o' b hne (ownSub hs h1) (ownSub hs h2)
  owns o b h1 := h.owns o b (ownSub hs h1)
  inS := h.inS
  gl := h.gl

/-- What is not kept stays as it is from now on. -/
theorem keep_ok {H : List AObj} (h : HOK S μ w H) (σ : Sg) : HOK (Lent S μ (dropH σ 0 H)) μ w (keepH σ 0 H) := by
  have hk := h.sub (keepH_sub σ 0 H)
  have apart : ∀ o o', LiveAt (keepH σ 0 H) o → LiveAt (dropH σ 0 H) o' → o ≠ o' := fun o o' h1 h2 e => by
    subst e
    have hi : inR σ o = true := by
      cases hr : inR σ o
      · have : (keepH σ 0 H)[o]? = (H[o]?).map fun _ => AObj.dead := by rw [keepH_get, Nat.zero_add, hr]; rfl
        unfold LiveAt at h1
        rw [this] at h1
        cases hh : H[o]? <;> rw [hh] at h1 <;> exact h1.elim
      · rfl
    have : (dropH σ 0 H)[o]? = (H[o]?).map fun _ => AObj.dead := by rw [dropH_get, Nat.zero_add, hi]; rfl
    unfold LiveAt at h2
    rw [this] at h2
    cases hh : H[o]? <;> rw [hh] at h2 <;> exact h2.elim
  refine { obj := fun o x ho => ObjRel_mono (fun _ hb => .inl hb) (fun _ _ => rfl) rfl (fun _ _ _ _ => rfl) (fun _ _ => rfl) (hk.obj o x ho), ids := hk.ids, seps := hk.seps, owns := fun o b h1 => ⟨fun hs => ?_, (hk.owns o b h1).2⟩, inS := fun b hb => ?_, gl := h.gl.mono (fun _ h => .inl h) fun _ _ => rfl }
  · rcases hs with hs | ⟨o', h2⟩
    · exact (hk.owns o b h1).1 hs
    · exact h.seps o o' b (apart o o' h1.live h2.live) (ownSub (keepH_sub σ 0 H) h1) (ownSub (dropH_sub σ 0 H) h2)
  · rcases hb with hb | ⟨o', h2⟩
    · exact h.inS b hb
    · exact (h.owns o' b (ownSub (dropH_sub σ 0 H) h2)).2

theorem frz0_sound {H : List AObj} (hH : HOK S μ w H) {a : AV} {y : Value} (hp : ∀ q ∈ (frz0 H a).1, q) (h : Rel S μ w a y) : Rel (Lent S μ H) μ w (frz0 H a).2 y := by
  have up : ∀ a, Rel S μ w a y → Rel (Lent S μ H) μ w a y := fun a h => Rel_mono (fun _ hb => .inl hb) (fun _ _ => rfl) _ _ (fun _ _ => rfl) h
  unfold frz0 at hp ⊢
  split
  · rename_i o lo n
    split
    · rename_i m esz cell hl
      have := view0_sound hH (a := .osl o lo n) (y := y) (by simp only [view0, hl]; simp only [hl] at hp; exact hp) h
      simp only [view0, hl] at this
      exact this
    · rename_i m esz cell hl
      have := view0_sound hH (a := .osl o lo n) (y := y) (by simp only [view0, hl]; simp only [hl] at hp; exact hp) h
      simp only [view0, hl] at this
      exact this
    · rename_i m esz cell hl
      have := view0_sound hH (a := .osl o lo n) (y := y) (by simp only [view0, hl]; simp only [hl] at hp; exact hp) h
      simp only [view0, hl] at this
      exact this
    · exact up _ h
  · exact up _ h
theorem frz1_sound {H : List AObj} (hH : HOK S μ w H) {a : AV} {y : Value} (hp : ∀ q ∈ (frz1 H a).1, q) (h : Rel S μ w a y) : Rel (Lent S μ H) μ w (frz1 H a).2 y := by
  unfold frz1 at hp ⊢
  split
  · obtain ⟨vs, rfl, h⟩ := h
    exact ⟨vs, rfl, viewL_sound (f := frz0 H) (RR := Rel S μ w) (fun a y hq hr => frz0_sound hH hq hr) (RelL_pairs h).1 (RelL_pairs h).2 hp⟩
  · rename_i hno
    exact frz0_sound hH (by
      split at hp
      · rename_i cs; exact absurd rfl (hno cs)
      · exact hp) h
theorem frz2_sound {H : List AObj} (hH : HOK S μ w H) {a : AV} {y : Value} (hp : ∀ q ∈ (frz2 H a).1, q) (h : Rel S μ w a y) : Rel (Lent S μ H) μ w (frz2 H a).2 y := by
  unfold frz2 at hp ⊢
  split
  · obtain ⟨vs, rfl, h⟩ := h
    exact ⟨vs, rfl, viewL_sound (f := frz1 H) (RR := Rel S μ w) (fun a y hq hr => frz1_sound hH hq hr) (RelL_pairs h).1 (RelL_pairs h).2 hp⟩
  · rename_i hno
    exact frz1_sound hH (by
      split at hp
      · rename_i cs; exact absurd rfl (hno cs)
      · exact hp) h

/-- The same of a function that works on objects. -/
theorem eff_of {Γ : Ctx} (hm : P.follows .mixedOrders = true) (hΓ : CtxOK P Γ) {f : FuncId} {X Y : Type} {tgt : X → St} {pre : X → Prop} {post : X → Y → Prop} {out : X → Y → AV × List AObj} (an : X → List Ann)
    (h : ∀ x, pre x → awpE P Γ (an x) f (tgt x) fun r H => ∃ y, post x y ∧ St.leF (tgt x).H.length ⟨[r], H⟩ ⟨[(out x y).1], (out x y).2⟩) : SoundE P f X tgt pre Y post out := fun x hpre S μ w vals hok hx => by
  have h := h x hpre
  generalize tgt x = t at h hok hx
  unfold awpE at h
  split at h
  case h_2 => exact h.elim
  rename_i fn hf
  split at h
  case h_2 => exact h.elim
  rename_i c hc
  obtain ⟨hbl, h⟩ := bif_true h
  simp only [Bool.and_eq_true] at hbl
  let E : Ent := ⟨S, μ, t.H, w⟩
  have hmem : ∀ (k n : Nat), mentL k (List.replicate n (AV.v undef)) = false := fun k n => mentL_of fun a ha => by rw [(List.mem_replicate.1 ha).2]; rfl
  have hvl := RelL_length hx
  have hg : G E { fr := t.fr ++ List.replicate (fn.ntmps - t.fr.length) (.v undef), H := t.H } { tmps := vals.toArray ++ Array.replicate (fn.ntmps - vals.toArray.size) undef, defers := [] } w :=
    ⟨S, μ, ⟨rfl, by
      have e1 : (vals.toArray ++ Array.replicate (fn.ntmps - vals.toArray.size) undef).toList = vals ++ List.replicate (fn.ntmps - t.fr.length) undef := by simp [hvl]
      rw [e1]
      exact RelL_append hx (RelL_replicate (a := .v undef) (y := undef) rfl _),
      fun k hk => mentL_append ((below_ment hk).2 _ hbl.1) (hmem k _), hok, fun _ h => h, fun _ h => .inl h, fun _ _ => rfl, Nat.le_refl _, Kept.refl _ _ _, fun o b ho => .inr ⟨o, ho⟩⟩⟩
  refine calls_of_wp hf hc (wp_mono (awp_sound (E := E) hm hΓ rfl c (an x) _ _ _ _ h hg) fun e a w' he => ?_)
  obtain ⟨st, hq, S', μ', g⟩ := he
  have fin : (match resultsA P fn st with | some (p, r) => need p (∃ y, post x y ∧ St.leF t.H.length ⟨[r], st.H⟩ ⟨[(out x y).1], (out x y).2⟩) | none => False) →
      a.defers = [] ∧ ∃ v, (results fn a.tmps).run P w' = .ok v w' ∧ ∃ v' y S' μ', (Ending.returned v) = .returned v' ∧ post x y ∧ Evo S μ t.H w S' μ' (out x y).2 w' ∧ Rel S' μ' w' (out x y).1 v' := fun hq => by
    split at hq
    case h_2 => exact hq.elim
    rename_i p r hr
    obtain ⟨hp, y, hpost, hle⟩ := need_elim hq
    obtain ⟨v, h1, h2⟩ := results_sound g.hok g.fr hr hp
    unfold St.leF at hle
    generalize sigma t.H.length ⟨[r], st.H⟩ ⟨[(out x y).1], (out x y).2⟩ = σ at hle
    split at hle
    rename_i q fr hv
    obtain ⟨hq, hle⟩ := need_elim hle
    unfold St.leS at hle
    obtain ⟨hfb, hfr, hH⟩ := bif_true hle
    have hF := fit_of hfb
    have hokD := HOK.sub g.hok (dropH_sub σ 0 st.H)
    have hfz := viewL_sound (f := frz2 (dropH σ 0 st.H)) (RR := Rel S' μ' w') (S' := Lent S' μ' (dropH σ 0 st.H)) (μ' := μ') (fun a y hq hr => frz2_sound hokD hq hr) (as := [r]) (ys := [v]) rfl
      (fun i a y h3 h4 => by
        cases i with
        | zero => simp at h3 h4; subst h3; subst h4; exact h2
        | succ i => simp at h3) (by rw [hv]; exact hq)
    rw [hv] at hfz
    have hokK := keep_ok g.hok σ
    have hr1 : RelL (Lent S' μ' (dropH σ 0 st.H)) (muS σ μ' (out x y).2) w' [(out x y).1] [v] := frLeT_sound hokK (fun _ _ h => muS_some h) (fun _ h => muS_none h) hfr hfz
    obtain ⟨v', r', he, h3, rfl⟩ := hr1
    cases he
    have hok1 := HOK.le (s := ⟨fr, keepH σ 0 st.H⟩) (t := ⟨[(out x y).1], (out x y).2⟩) hokK hF hH
    refine ⟨g.defers, v, h1, v, y, Lent S' μ' (dropH σ 0 st.H), muS σ μ' (out x y).2, rfl, hpost, ⟨fun b hb => .inl (g.sub b hb), fun b hb => ?_, fun o ho => ?_, hF.le, g.kept, fun o b hl => ?_, hok1⟩, h3⟩
    · rcases hb with hb | ⟨o, h4⟩
      · exact g.new b hb
      · exact .inr (g.mines o b (ownSub (dropH_sub σ 0 st.H) h4))
    · rw [muS_some (hF.old o ho)]
      exact g.mu o ho
    · obtain ⟨o', h4, h5⟩ := own_le hH hl
      exact g.mines o' b (ownSub (keepH_sub σ 0 st.H) h5)
  cases e with
  | normal => exact fin hq
  | ret => exact fin hq
  | _ => exact hq.elim

def callableB (P : Program) (g : FuncId) : Bool := match P.funcs[g]? with
  | some fn => !(fn.name == "runtime.NumGoroutine") && !fn.body.isNone
  | none => false

theorem callable_of {g : FuncId} (h : callableB P g = true) : Callable P g := by
  unfold callableB at h
  split at h
  · rename_i fn hf
    simp only [Bool.and_eq_true, Bool.not_eq_true'] at h
    exact ⟨fn, hf, h.1, h.2⟩
  · cases h

/-- A contract holds if its goals do. -/
theorem sound_of (hm : P.follows .mixedOrders = true) {Γ : Ctx} (hΓ : CtxOK P Γ) {f : FuncId} {c : Contract} (an : c.X → List Ann) (hc : callableB P f = true) (h : ∀ x, c.pre x → Goal P Γ (an x) f c x) : SoundC P f c := by
  cases c with
  | sc X args pre res => exact ⟨callable_of hc, fun x hx => pure_of hm hΓ (an x) (h x hx)⟩
  | imf X args pre res => exact ⟨callable_of hc, fun x hx => pure_of hm hΓ (an x) (h x hx)⟩
  | im X args pre res => exact ⟨callable_of hc, fun x hx => pure_of hm hΓ (an x) (h x hx)⟩
  | eff X tgt pre Y post out => exact ⟨callable_of hc, eff_of hm hΓ an h⟩
  | efz X tgt pre Y post out => exact ⟨callable_of hc, eff_of hm hΓ an h⟩

theorem CtxOK.nil : CtxOK P [] := fun _ h => by cases h
theorem CtxOK.cons {g : Nat} {c : Contract} {Γ : Ctx} (h : SoundC P g c) (hΓ : CtxOK P Γ) : CtxOK P ((g, c) :: Γ) := fun x hx => by
  cases List.mem_cons.1 hx with
  | inl e => subst e; exact h
  | inr e => exact hΓ x e
theorem CtxOK.and {K : Nat × Contract} {Γ : Ctx} (hΓ : CtxOK P Γ) (h : SoundC P K.1 K.2) : CtxOK P (K :: Γ) := CtxOK.cons h hΓ

end
end Cg

/-
  A callee that turns a slice of the call's own, at a slice that lies within another object. No condition.
-/
namespace Cg
open Go

/-- One cell in the place of another. -/
def fillX (cell : Nat → Nat → AV) (i j : Nat) (a : AV) : Nat → Nat → AV := fun i' j' => bif Nat.beq i' i && Nat.beq j' j then a else cell i' j'
theorem fillX_at (cell : Nat → Nat → AV) (i j : Nat) (a : AV) : fillX cell i j a i j = a := by unfold fillX; simp
theorem fillX_ne {cell : Nat → Nat → AV} {i j i' j' : Nat} {a : AV} (h : ¬ (i' = i ∧ j' = j)) : fillX cell i j a i' j' = cell i' j' := by
  unfold fillX
  cases hb : (Nat.beq i' i && Nat.beq j' j)
  · rfl
  · simp only [Bool.and_eq_true] at hb
    exact absurd ⟨Nat.eq_of_beq_eq_true hb.1, Nat.eq_of_beq_eq_true hb.2⟩ h

theorem sc1_v {a : AV} (h : isSc1 a = true) : ∃ x, a = .v x := by
  cases a <;> first | exact ⟨_, rfl⟩ | cases h
theorem sc1_rel {S S' : Nat → Prop} {μ μ' : Nat → OI} {w w' : World} {a : AV} (h : isSc1 a = true) {y : Value} (hr : Rel S μ w a y) : Rel S' μ' w' a y := by
  obtain ⟨x, rfl⟩ := sc1_v h
  exact hr
theorem sc1_relL {S S' : Nat → Prop} {μ μ' : Nat → OI} {w w' : World} : ∀ {as : List AV} {ys : List Value}, as.all isSc1 = true → RelL S μ w as ys → RelL S' μ' w' as ys
  | [], _, _, h => h
  | a :: as, _, ha, ⟨y, r, e, h1, h2⟩ => by
    simp only [List.all_cons, Bool.and_eq_true] at ha
    exact ⟨y, r, e, sc1_rel ha.1 h1, sc1_relL ha.2 h2⟩

theorem own_one {μ : Nat → OI} {x : AObj} {o b : Nat} : Own μ [x] o b ↔ o = 0 ∧ HasB x (μ 0) b := by
  constructor
  · rintro ⟨y, h1, h2⟩
    cases o with
    | zero => simp at h1; subst h1; exact ⟨rfl, h2⟩
    | succ o => simp at h1
  · rintro ⟨rfl, h⟩
    exact ⟨x, rfl, h⟩

/-- A slice that lies within another object, seen alone. -/
def innO (μ : Nat → OI) (i j e : Nat) : Nat → OI := fun _ => match (μ 0).inn i j with
  | some q => ⟨some q.b, q.off, q.cap, e, q.sub⟩
  | none => ⟨none, 0, 0, e, fun _ _ => none⟩

theorem SoundE.at {P : Program} {f : FuncId} {X Y : Type} {n e : X → Nat} {c : X → Nat → Nat → AV} {rest : X → List AV} {pre : X → Prop} {post : X → Y → Prop} {r : X → Y → AV} {c' : X → Y → Nat → Nat → AV}
    (hs : SoundE P f X (fun x => ⟨.osl 0 0 (n x) :: rest x, [.arr (n x) (e x) (c x)]⟩) pre Y post fun x y => (r x y, [.arr (n x) (e x) (c' x y)]))
    (hr : ∀ x, (rest x).all isSc1 = true) (hr' : ∀ x y, isSc1 (r x y) = true) (hfl : ∀ x, FlatC (n x) (e x) (c x)) (hfl' : ∀ x y, FlatC (n x) (e x) (c' x y)) {X' : Type} (g : X' → X) (m q i j : X' → Nat) (cell : X' → Nat → Nat → AV) :
    SoundE P f X' (fun x => ⟨.xsl 0 (i x) (j x) (n (g x)) :: rest (g x), [.xarr (m x) (q x) (cell x)]⟩)
      (fun x => pre (g x) ∧ i x < m x ∧ j x < q x ∧ cell x (i x) (j x) = .sl (n (g x)) (e (g x)) (c (g x))) Y (fun x y => post (g x) y)
      fun x y => (r (g x) y, [.xarr (m x) (q x) (fillX (cell x) (i x) (j x) (.sl (n (g x)) (e (g x)) (c' (g x) y)))]) := by
  intro x hp S μ w vals hok hrel
  obtain ⟨hp, hi, hj, hc⟩ := hp
  obtain ⟨y0, ys, rfl, hr0, hrs⟩ := hrel
  obtain ⟨hesz, hinn, hobj⟩ := hok.obj 0 _ rfl
  cases hb0 : (μ 0).b with
  | none => rw [hb0] at hobj; have : m x = 0 := hobj; omega
  | some B0 =>
  rw [hb0] at hobj
  obtain ⟨hmc, C0, T0, hC0, hfit0, hx0⟩ := hobj
  obtain ⟨u0, hu1, hu2⟩ := hx0 (i x) hi (j x) hj
  rw [hc] at hu2
  replace hu2 : RelN S w ((μ 0).inn (i x) (j x)) (n (g x)) (e (g x)) (c (g x)) u0 := hu2
  have hownq : ∀ v, (μ 0).inn (i x) (j x) = some v → Own μ [AObj.xarr (m x) (q x) (cell x)] 0 v.b := fun v hv => own_one.2 ⟨rfl, .inr ⟨_, _, v, hv, .here v⟩⟩
  have hownB : Own μ [AObj.xarr (m x) (q x) (cell x)] 0 B0 := own_one.2 ⟨rfl, .inl hb0⟩
  let μf := innO μ (i x) (j x) (e (g x))
  have hfb : ∀ b, (μf 0).b = some b ↔ ∃ v, (μ 0).inn (i x) (j x) = some v ∧ v.b = b := fun b => by
    show (innO μ (i x) (j x) (e (g x)) 0).b = some b ↔ _
    unfold innO
    cases (μ 0).inn (i x) (j x) with
    | none => simp
    | some v => simp
  have hblk : ∀ b, Blk μf [AObj.arr (n (g x)) (e (g x)) (c (g x))] b → ∃ v, (μ 0).inn (i x) (j x) = some v ∧ v.b = b := fun b ⟨o, h⟩ => by
    obtain ⟨e1, h2⟩ := own_one.1 h
    exact (hfb b).1 h2
  have hblk' : ∀ b, Blk μf [AObj.arr (n (g x)) (e (g x)) (c (g x))] b → Blk μ [AObj.xarr (m x) (q x) (cell x)] b := fun b h => by
    obtain ⟨v, h1, rfl⟩ := hblk b h
    exact ⟨0, hownq v h1⟩
  have hokf : HOK S μf w [AObj.arr (n (g x)) (e (g x)) (c (g x))] := {
    obj := fun o y ho => by
      cases o with
      | succ o => simp at ho
      | zero =>
        simp at ho; subst ho
        show (innO μ (i x) (j x) (e (g x)) 0).esz = _ ∧ _
        refine ⟨by unfold innO; split <;> rfl, ?_⟩
        show match (innO μ (i x) (j x) (e (g x)) 0).b with
          | none => n (g x) = 0
          | some b => n (g x) ≤ (innO μ (i x) (j x) (e (g x)) 0).cap ∧ ∃ c1 T, w.heap[b]? = some (.cells c1 T (0, 0)) ∧ (innO μ (i x) (j x) (e (g x)) 0).base + (innO μ (i x) (j x) (e (g x)) 0).cap * e (g x) ≤ c1.size ∧
            ∀ i', i' < n (g x) → ∀ j', j' < e (g x) → ∃ z, c1[(innO μ (i x) (j x) (e (g x)) 0).base + i' * e (g x) + j']? = some z ∧ RelI S w (c (g x) i' j') z
        unfold innO
        revert hu2
        cases (μ 0).inn (i x) (j x) with
        | none => exact fun h => h.1
        | some v =>
          intro h
          obtain ⟨h1, h2, h3, _, C, T, h4, h5, h6⟩ := h
          refine ⟨by rw [h1]; exact h2, C, T, h4, h5, fun i' hi' j' hj' => ?_⟩
          obtain ⟨z, h7, h8⟩ := h6 i' hi' j' hj'
          exact ⟨z, h7, flat_RelI (S := S) (hfl _ i' hi' j' hj') h8⟩
    ids := fun o cs ho => by
      cases o with
      | succ o => simp at ho
      | zero => simp at ho
    seps := fun o o' b hne h1 h2 => hne ((own_one.1 h1).1.trans (own_one.1 h2).1.symm)
    owns := fun o b h => by
      obtain ⟨v, h1, rfl⟩ := hblk b ⟨o, h⟩
      exact hok.owns 0 v.b (hownq v h1)
    inS := hok.inS
    gl := hok.gl }
  have hrelf : RelL S μf w (.osl 0 0 (n (g x)) :: rest (g x)) (y0 :: ys) := by
    refine ⟨y0, ys, rfl, ?_, sc1_relL (hr _) hrs⟩
    show Rel S (innO μ (i x) (j x) (e (g x))) w (.osl 0 0 (n (g x))) y0
    unfold Rel at hr0 ⊢
    unfold innO
    revert hr0 hu2
    cases (μ 0).inn (i x) (j x) with
    | none => exact fun _ h => ⟨rfl, h.1, h.2⟩
    | some v =>
      intro hN h
      obtain ⟨h1, rfl⟩ := h
      exact ⟨by rw [Nat.zero_add, h1]; exact hN.2.1, ⟨v.b, v.off, none⟩, by simp, fun _ => by simp⟩
  refine (hs (g x) hp S μf w (y0 :: ys) hokf hrelf).mono fun en w' he => ?_
  obtain ⟨v, y, S', μ', rfl, hpost, hevo, hR⟩ := he
  have hmu : μ' 0 = μf 0 := hevo.mu 0 (by simp)
  have hkept : ∀ b, b < w.heap.size → (∀ v, (μ 0).inn (i x) (j x) = some v → v.b ≠ b) → w'.heap[b]? = w.heap[b]? := fun b hb hn => hevo.kept.block b hb fun h => by
    obtain ⟨v, h1, h2⟩ := hblk b h
    exact hn v h1 h2
  have hSb : ∀ b, S b → w'.heap[b]? = w.heap[b]? := fun b hb => hkept b (hok.inS b hb) fun v hv e => (hok.owns 0 v.b (hownq v hv)).1 (e ▸ hb)
  have hnew : RelN S' w' ((μ 0).inn (i x) (j x)) (n (g x)) (e (g x)) (c' (g x) y) u0 := by
    have hobj' := hevo.hok.obj 0 _ rfl
    obtain ⟨_, hobj'⟩ := hobj'
    rw [hmu] at hobj'
    have hobj' : match (innO μ (i x) (j x) (e (g x)) 0).b with
          | none => n (g x) = 0
          | some b => n (g x) ≤ (innO μ (i x) (j x) (e (g x)) 0).cap ∧ ∃ c1 T, w'.heap[b]? = some (.cells c1 T (0, 0)) ∧ (innO μ (i x) (j x) (e (g x)) 0).base + (innO μ (i x) (j x) (e (g x)) 0).cap * e (g x) ≤ c1.size ∧
            ∀ i', i' < n (g x) → ∀ j', j' < e (g x) → ∃ z, c1[(innO μ (i x) (j x) (e (g x)) 0).base + i' * e (g x) + j']? = some z ∧ RelI S' w' (c' (g x) y i' j') z := hobj'
    unfold innO at hobj'
    revert hu2 hobj'
    cases (μ 0).inn (i x) (j x) with
    | none => exact fun h _ => h
    | some v =>
      intro h h'
      obtain ⟨h1, h2, h3, h0, C, T, h4, h5, h6⟩ := h
      obtain ⟨k1, C1, T1, k4, k5, k6⟩ := h'
      refine ⟨h1, h2, h3, h0, C1, T1, k4, k5, fun i' hi' j' hj' => ?_⟩
      obtain ⟨z, k7, k8⟩ := k6 i' hi' j' hj'
      exact ⟨z, k7, flat_RelX (S := S') (hfl' _ _ i' hi' j' hj') k8⟩
  refine ⟨v, y, S', μ, rfl, hpost, {
    sub := hevo.sub
    new := fun b hb => (hevo.new b hb).imp id fun h => h.imp id (hblk' b)
    mu := fun _ _ => rfl
    len := Nat.le_refl _
    kept := ⟨hevo.kept.os, hevo.kept.tape, hevo.kept.output, hevo.kept.size, fun b hb hn => hevo.kept.block b hb fun h => hn (hblk' b h)⟩
    mine := fun o b h => .inr (by
      obtain ⟨e1, h2⟩ := own_one.1 h
      exact ⟨0, own_one.2 ⟨rfl, h2⟩⟩)
    hok := {
      obj := fun o z ho => by
        cases o with
        | succ o => simp at ho
        | zero =>
          simp at ho; subst ho
          refine ⟨hesz, hinn, ?_⟩
          rw [hb0]
          refine ⟨hmc, C0, T0, ?_, hfit0, fun i' hi' j' hj' => ?_⟩
          · rw [hkept B0 (hok.owns 0 B0 hownB).2 fun v hv e => (hinn _ _ v hv).1 v.b (.here v) (by rw [hb0, e])]
            exact hC0
          · obtain ⟨u, h1, h2⟩ := hx0 i' hi' j' hj'
            refine ⟨u, h1, ?_⟩
            by_cases hij : i' = i x ∧ j' = j x
            · obtain ⟨rfl, rfl⟩ := hij
              rw [h1] at hu1; cases hu1
              rw [fillX_at]
              exact hnew
            · rw [fillX_ne hij]
              refine RelX_mono hevo.sub hSb (fun v' hv' c hc => hkept c (hok.owns 0 c (own_one.2 ⟨rfl, .inr ⟨_, _, v', hv', hc⟩⟩)).2 fun v hv e => hij ?_) h2
              exact (hinn _ _ v hv).2.2.2 i' j' v' c hv' (e ▸ .here v) hc
      ids := fun o cs ho => by
        cases o with
        | succ o => simp at ho
        | zero => simp at ho
      seps := fun o o' b hne h1 h2 => hne ((own_one.1 h1).1.trans (own_one.1 h2).1.symm)
      owns := fun o b h => by
        obtain ⟨e1, hh⟩ := own_one.1 h
        subst e1
        have h' : Own μ [AObj.xarr (m x) (q x) (cell x)] 0 b := own_one.2 ⟨rfl, hh⟩
        obtain ⟨h1, h2⟩ := hok.owns 0 b h'
        refine ⟨fun hS => ?_, Nat.lt_of_lt_of_le h2 hevo.kept.size⟩
        rcases hevo.new b hS with k | k | k
        · exact h1 k
        · omega
        · obtain ⟨v, k1, rfl⟩ := hblk b k
          exact (hevo.hok.owns 0 v.b (own_one.2 ⟨rfl, by rw [hmu]; exact (hfb v.b).2 ⟨v, k1, rfl⟩⟩)).1 hS
      inS := hevo.hok.inS
      gl := hevo.hok.gl } }, sc1_rel (hr' _ _) hR⟩

theorem SoundE.atX {P : Program} {f : FuncId} {X Y : Type} {n e : X → Nat} {c : X → Nat → Nat → AV} {rest : X → List AV} {pre : X → Prop} {post : X → Y → Prop} {r : X → Y → AV} {c' : X → Y → Nat → Nat → AV}
    (hs : SoundE P f X (fun x => ⟨.osl 0 0 (n x) :: rest x, [.xarr (n x) (e x) (c x)]⟩) pre Y post fun x y => (r x y, [.xarr (n x) (e x) (c' x y)]))
    (hr : ∀ x, (rest x).all isSc1 = true) (hr' : ∀ x y, isSc1 (r x y) = true) {X' : Type} (g : X' → X) (m q i j : X' → Nat) (cell : X' → Nat → Nat → AV) :
    SoundE P f X' (fun x => ⟨.xsl 0 (i x) (j x) (n (g x)) :: rest (g x), [.xarr (m x) (q x) (cell x)]⟩)
      (fun x => pre (g x) ∧ i x < m x ∧ j x < q x ∧ IsX (cell x (i x) (j x)) (.sl (n (g x)) (e (g x)) (c (g x)))) Y (fun x y => post (g x) y)
      fun x y => (r (g x) y, [.xarr (m x) (q x) (fillX (cell x) (i x) (j x) (.sl (n (g x)) (e (g x)) (c' (g x) y)))]) := by
  intro x hp S μ w vals hok hrel
  obtain ⟨hp, hi, hj, hc⟩ := hp
  obtain ⟨y0, ys, rfl, hr0, hrs⟩ := hrel
  obtain ⟨hesz, hinn, hobj⟩ := hok.obj 0 _ rfl
  cases hb0 : (μ 0).b with
  | none => rw [hb0] at hobj; have : m x = 0 := hobj; omega
  | some B0 =>
  rw [hb0] at hobj
  obtain ⟨hmc, C0, T0, hC0, hfit0, hx0⟩ := hobj
  obtain ⟨u0, hu1, hu2⟩ := hx0 (i x) hi (j x) hj
  replace hu2 : RelN S w ((μ 0).inn (i x) (j x)) (n (g x)) (e (g x)) (c (g x)) u0 := IsX_RelX hc hu2
  have hownq : ∀ v, (μ 0).inn (i x) (j x) = some v → ∀ b, InT v b → Own μ [AObj.xarr (m x) (q x) (cell x)] 0 b := fun v hv b hb => own_one.2 ⟨rfl, .inr ⟨_, _, v, hv, hb⟩⟩
  have hownB : Own μ [AObj.xarr (m x) (q x) (cell x)] 0 B0 := own_one.2 ⟨rfl, .inl hb0⟩
  let μf := innO μ (i x) (j x) (e (g x))
  have hfb : ∀ b, HasB (.xarr (n (g x)) (e (g x)) (c (g x))) (μf 0) b ↔ ∃ v, (μ 0).inn (i x) (j x) = some v ∧ InT v b := fun b => by
    show ((innO μ (i x) (j x) (e (g x)) 0).b = some b ∨ ∃ i' j' v, (innO μ (i x) (j x) (e (g x)) 0).inn i' j' = some v ∧ InT v b) ↔ _
    unfold innO
    cases (μ 0).inn (i x) (j x) with
    | none => exact ⟨fun h => (by rcases h with h | ⟨_, _, _, h, _⟩ <;> cases h), fun ⟨v, h, _⟩ => (by cases h)⟩
    | some v =>
      constructor
      · rintro (h | ⟨i', j', u, h, h'⟩)
        · cases h; exact ⟨v, rfl, .here v⟩
        · exact ⟨v, rfl, .sub v i' j' u b h h'⟩
      · rintro ⟨u, h, h'⟩
        cases h
        rcases h'.elim with rfl | ⟨i', j', u, h1, h2⟩
        · exact .inl rfl
        · exact .inr ⟨i', j', u, h1, h2⟩
  have hblk : ∀ b, Blk μf [AObj.xarr (n (g x)) (e (g x)) (c (g x))] b → ∃ v, (μ 0).inn (i x) (j x) = some v ∧ InT v b := fun b ⟨o, h⟩ => by
    obtain ⟨e1, h2⟩ := own_one.1 h
    exact (hfb b).1 h2
  have hblk' : ∀ b, Blk μf [AObj.xarr (n (g x)) (e (g x)) (c (g x))] b → Blk μ [AObj.xarr (m x) (q x) (cell x)] b := fun b h => by
    obtain ⟨v, h1, h2⟩ := hblk b h
    exact ⟨0, hownq v h1 b h2⟩
  have hokf : HOK S μf w [AObj.xarr (n (g x)) (e (g x)) (c (g x))] := {
    obj := fun o y ho => by
      cases o with
      | succ o => simp at ho
      | zero =>
        simp at ho; subst ho
        show (innO μ (i x) (j x) (e (g x)) 0).esz = _ ∧ SubOK (innO μ (i x) (j x) (e (g x)) 0).b (n (g x)) (e (g x)) (innO μ (i x) (j x) (e (g x)) 0).inn ∧ match (innO μ (i x) (j x) (e (g x)) 0).b with
          | none => n (g x) = 0
          | some b => n (g x) ≤ (innO μ (i x) (j x) (e (g x)) 0).cap ∧ ∃ c1 T, w.heap[b]? = some (.cells c1 T (0, 0)) ∧ (innO μ (i x) (j x) (e (g x)) 0).base + (innO μ (i x) (j x) (e (g x)) 0).cap * e (g x) ≤ c1.size ∧
            ∀ i', i' < n (g x) → ∀ j', j' < e (g x) → ∃ z, c1[(innO μ (i x) (j x) (e (g x)) 0).base + i' * e (g x) + j']? = some z ∧ RelX S (innO μ (i x) (j x) (e (g x)) 0).inn w i' j' (c (g x) i' j') z
        unfold innO
        revert hu2
        cases (μ 0).inn (i x) (j x) with
        | none => exact fun h => ⟨rfl, fun _ _ _ h => (by cases h), h.1⟩
        | some v =>
          intro h
          obtain ⟨h1, h2, h3, h0, C, T, h4, h5, h6⟩ := h
          exact ⟨rfl, h0, by rw [h1]; exact h2, C, T, h4, h5, h6⟩
    ids := fun o cs ho => by
      cases o with
      | succ o => simp at ho
      | zero => simp at ho
    seps := fun o o' b hne h1 h2 => hne ((own_one.1 h1).1.trans (own_one.1 h2).1.symm)
    owns := fun o b h => by
      obtain ⟨v, h1, h2⟩ := hblk b ⟨o, h⟩
      exact hok.owns 0 b (hownq v h1 b h2)
    inS := hok.inS
    gl := hok.gl }
  have hrelf : RelL S μf w (.osl 0 0 (n (g x)) :: rest (g x)) (y0 :: ys) := by
    refine ⟨y0, ys, rfl, ?_, sc1_relL (hr _) hrs⟩
    show Rel S (innO μ (i x) (j x) (e (g x))) w (.osl 0 0 (n (g x))) y0
    unfold Rel at hr0 ⊢
    unfold innO
    revert hr0 hu2
    cases (μ 0).inn (i x) (j x) with
    | none => exact fun _ h => ⟨rfl, h.1, h.2⟩
    | some v =>
      intro hN h
      obtain ⟨h1, rfl⟩ := h
      exact ⟨by rw [Nat.zero_add, h1]; exact hN.2.1, ⟨v.b, v.off, none⟩, by simp, fun _ => by simp⟩
  refine (hs (g x) hp S μf w (y0 :: ys) hokf hrelf).mono fun en w' he => ?_
  obtain ⟨v, y, S', μ', rfl, hpost, hevo, hR⟩ := he
  have hmu : μ' 0 = μf 0 := hevo.mu 0 (by simp)
  have hkept : ∀ b, b < w.heap.size → (∀ v, (μ 0).inn (i x) (j x) = some v → ¬ InT v b) → w'.heap[b]? = w.heap[b]? := fun b hb hn => hevo.kept.block b hb fun h => by
    obtain ⟨v, h1, h2⟩ := hblk b h
    exact hn v h1 h2
  have hSb : ∀ b, S b → w'.heap[b]? = w.heap[b]? := fun b hb => hkept b (hok.inS b hb) fun v hv e => (hok.owns 0 b (hownq v hv b e)).1 hb
  have hnew : RelN S' w' ((μ 0).inn (i x) (j x)) (n (g x)) (e (g x)) (c' (g x) y) u0 := by
    have hobj' := hevo.hok.obj 0 _ rfl
    obtain ⟨_, hsub', hobj'⟩ := hobj'
    rw [hmu] at hobj' hsub'
    have hsub' : SubOK (innO μ (i x) (j x) (e (g x)) 0).b (n (g x)) (e (g x)) (innO μ (i x) (j x) (e (g x)) 0).inn := hsub'
    have hobj' : match (innO μ (i x) (j x) (e (g x)) 0).b with
          | none => n (g x) = 0
          | some b => n (g x) ≤ (innO μ (i x) (j x) (e (g x)) 0).cap ∧ ∃ c1 T, w'.heap[b]? = some (.cells c1 T (0, 0)) ∧ (innO μ (i x) (j x) (e (g x)) 0).base + (innO μ (i x) (j x) (e (g x)) 0).cap * e (g x) ≤ c1.size ∧
            ∀ i', i' < n (g x) → ∀ j', j' < e (g x) → ∃ z, c1[(innO μ (i x) (j x) (e (g x)) 0).base + i' * e (g x) + j']? = some z ∧ RelX S' (innO μ (i x) (j x) (e (g x)) 0).inn w' i' j' (c' (g x) y i' j') z := hobj'
    unfold innO at hobj' hsub'
    revert hu2 hobj' hsub'
    cases (μ 0).inn (i x) (j x) with
    | none => exact fun h _ _ => h
    | some v =>
      intro h h0 h'
      obtain ⟨h1, h2, h3, _, C, T, h4, h5, h6⟩ := h
      obtain ⟨k1, C1, T1, k4, k5, k6⟩ := h'
      exact ⟨h1, h2, h3, h0, C1, T1, k4, k5, k6⟩
  refine ⟨v, y, S', μ, rfl, hpost, {
    sub := hevo.sub
    new := fun b hb => (hevo.new b hb).imp id fun h => h.imp id (hblk' b)
    mu := fun _ _ => rfl
    len := Nat.le_refl _
    kept := ⟨hevo.kept.os, hevo.kept.tape, hevo.kept.output, hevo.kept.size, fun b hb hn => hevo.kept.block b hb fun h => hn (hblk' b h)⟩
    mine := fun o b h => .inr (by
      obtain ⟨e1, h2⟩ := own_one.1 h
      exact ⟨0, own_one.2 ⟨rfl, h2⟩⟩)
    hok := {
      obj := fun o z ho => by
        cases o with
        | succ o => simp at ho
        | zero =>
          simp at ho; subst ho
          refine ⟨hesz, hinn, ?_⟩
          rw [hb0]
          refine ⟨hmc, C0, T0, ?_, hfit0, fun i' hi' j' hj' => ?_⟩
          · rw [hkept B0 (hok.owns 0 B0 hownB).2 fun v hv e => (hinn _ _ v hv).1 B0 e hb0]
            exact hC0
          · obtain ⟨u, h1, h2⟩ := hx0 i' hi' j' hj'
            refine ⟨u, h1, ?_⟩
            by_cases hij : i' = i x ∧ j' = j x
            · obtain ⟨rfl, rfl⟩ := hij
              rw [h1] at hu1; cases hu1
              rw [fillX_at]
              exact hnew
            · rw [fillX_ne hij]
              refine RelX_mono hevo.sub hSb (fun v' hv' c hc => hkept c (hok.owns 0 c (own_one.2 ⟨rfl, .inr ⟨_, _, v', hv', hc⟩⟩)).2 fun v hv e => hij ?_) h2
              exact (hinn _ _ v hv).2.2.2 i' j' v' c hv' e hc
      ids := fun o cs ho => by
        cases o with
        | succ o => simp at ho
        | zero => simp at ho
      seps := fun o o' b hne h1 h2 => hne ((own_one.1 h1).1.trans (own_one.1 h2).1.symm)
      owns := fun o b h => by
        obtain ⟨e1, hh⟩ := own_one.1 h
        subst e1
        have h' : Own μ [AObj.xarr (m x) (q x) (cell x)] 0 b := own_one.2 ⟨rfl, hh⟩
        obtain ⟨h1, h2⟩ := hok.owns 0 b h'
        refine ⟨fun hS => ?_, Nat.lt_of_lt_of_le h2 hevo.kept.size⟩
        rcases hevo.new b hS with k | k | k
        · exact h1 k
        · omega
        · obtain ⟨v, k1, k2⟩ := hblk b k
          exact (hevo.hok.owns 0 b (own_one.2 ⟨rfl, by rw [hmu]; exact (hfb b).2 ⟨v, k1, k2⟩⟩)).1 hS
      inS := hevo.hok.inS
      gl := hevo.hok.gl } }, sc1_rel (hr' _ _) hR⟩

/-- An object in the place of one whose cells are the same. -/
theorem Evo.xarrX {S S' : Nat → Prop} {μ μ' : Nat → OI} {H : List AObj} {w w' : World} {n e : Nat} {c c' : Nat → Nat → AV} (h : Evo S μ H w S' μ' [.xarr n e c] w') (hc : ∀ i, i < n → ∀ j, j < e → IsX (c i j) (c' i j)) : Evo S μ H w S' μ' [.xarr n e c'] w' := by
  have own : ∀ {o b : Nat}, Own μ' [.xarr n e c'] o b → Own μ' [.xarr n e c] o b := fun {o b} ⟨x, hx, hb⟩ => by
    cases o with
    | succ o => simp at hx
    | zero => cases hx; exact ⟨_, rfl, hb⟩
  refine { sub := h.sub, new := h.new, mu := h.mu, len := h.len, kept := h.kept, mine := fun o b hb => h.mine o b (own hb), hok := { obj := fun o x ho => ?_, ids := fun o cs ho => ?_, seps := fun o o' b hne h1 h2 => h.hok.seps o o' b hne (own h1) (own h2), owns := fun o b hb => h.hok.owns o b (own hb), inS := h.hok.inS, gl := h.hok.gl } }
  · cases o with
    | succ o => simp at ho
    | zero =>
      cases ho
      obtain ⟨h1, h2, h3⟩ := h.hok.obj 0 _ rfl
      refine ⟨h1, h2, ?_⟩
      cases hb : (μ' 0).b with
      | none => rw [hb] at h3; exact h3
      | some b =>
        rw [hb] at h3
        obtain ⟨h4, C, T, h5, h6, h7⟩ := h3
        refine ⟨h4, C, T, h5, h6, fun i hi j hj => ?_⟩
        obtain ⟨x, e1, e2⟩ := h7 i hi j hj
        exact ⟨x, e1, IsX_RelX (hc i hi j hj) e2⟩
  · cases o with
    | succ o => simp at ho
    | zero => cases ho

/-! ### What a callee reads is lent to it -/

/-- Cells, objects, values that say nothing of memory that stays. -/
def PlainI (a : AV) : Prop := ∀ (S S' : Nat → Prop) (w : World) (y : Value), RelI S w a y → RelI S' w a y
def PlainX (a : AV) : Prop := ∀ (S S' : Nat → Prop) (inn : Nat → Nat → Option Inn) (w : World) (i j : Nat) (y : Value), RelX S inn w i j a y → RelX S' inn w i j a y
def PlainR (a : AV) : Prop := ∀ (S S' : Nat → Prop) (μ : Nat → OI) (w : World) (y : Value), Rel S μ w a y → Rel S' μ w a y
def PlainO : AObj → Prop
  | .arr n e c => ∀ i, i < n → ∀ j, j < e → PlainI (c i j)
  | .xarr n e c => ∀ i, i < n → ∀ j, j < e → PlainX (c i j)
  | .dead => True
  | _ => False
theorem plainI_v (x : Value) : PlainI (.v x) := fun _ _ _ _ h => by
  unfold RelI at h ⊢; exact h
theorem plainX_v (x : Value) : PlainX (.v x) := fun _ _ _ _ _ _ _ h => h
theorem plainX_sl {n e : Nat} {c : Nat → Nat → AV} (_ : ∀ i, i < n → ∀ j, j < e → PlainI (c i j)) : PlainX (.sl n e c) := fun _ _ _ _ _ _ _ h => h
theorem plainR_v (x : Value) : PlainR (.v x) := fun _ _ _ _ _ h => h
theorem plainR_osl (o lo n : Nat) : PlainR (.osl o lo n) := fun _ _ _ _ _ h => by
  unfold Rel at h ⊢; exact h
theorem plainR_L {cs : List AV} (h : ∀ a ∈ cs, PlainR a) (S S' : Nat → Prop) (μ : Nat → OI) (w : World) : ∀ {vs : List Value}, RelL S μ w cs vs → RelL S' μ w cs vs := by
  induction cs with
  | nil => exact fun h => h
  | cons a cs ih =>
    rintro vs ⟨y, r, e, h1, h2⟩
    exact ⟨y, r, e, h a List.mem_cons_self _ _ _ _ _ h1, ih (fun b hb => h b (List.mem_cons_of_mem _ hb)) h2⟩
theorem plainR_tup {cs : List AV} (h : ∀ a ∈ cs, PlainR a) : PlainR (.tup cs) := fun S S' μ w y ⟨vs, h1, h2⟩ => ⟨vs, h1, plainR_L h S S' μ w h2⟩
theorem plainR_agg {cs : List AV} (h : ∀ a ∈ cs, PlainR a) : PlainR (.agg cs) := fun S S' μ w y ⟨vs, h1, h2⟩ => ⟨vs, h1, plainR_L h S S' μ w h2⟩

theorem own_app {μ : Nat → OI} {H H1 : List AObj} {o b : Nat} : Own μ (H ++ H1) o b ↔ (o < H.length ∧ Own μ H o b) ∨ (H.length ≤ o ∧ ∃ x, H1[o - H.length]? = some x ∧ HasB x (μ o) b) := by
  unfold Own
  by_cases h : o < H.length
  · rw [List.getElem?_append_left h]
    exact ⟨fun h' => .inl ⟨h, h'⟩, fun h' => h'.elim And.right fun h'' => by omega⟩
  · rw [List.getElem?_append_right (by omega)]
    exact ⟨fun h' => .inr ⟨by omega, h'⟩, fun h' => h'.elim (fun h'' => by omega) And.right⟩

def shiftL (d n : Nat) : List Nat := (List.range n).map (· + d)
theorem shiftL_get {d n k : Nat} (h : k < n) : (shiftL d n).getD k 0 = k + d := by
  unfold shiftL
  simp [h]

/-- A callee that only reads what it is handed, and hands back what is its own. -/
theorem SoundE.lend {P : Program} {f : FuncId} {X Y : Type} {enc : X → List AV} {pre : X → Prop} {post : X → Y → Prop} {out : X → Y → AV × List AObj}
    (hs : SoundE P f X (fun x => ⟨enc x, []⟩) pre Y post out) (hpl : ∀ x y, ∀ z ∈ (out x y).2, PlainO z) (hpr : ∀ x y, PlainR (out x y).1) (hbl : ∀ x y, below (out x y).2.length (out x y).1 = true)
    {X' : Type} (g : X' → X) (fr : X' → List AV) (Hs : X' → List AObj) (hv : ∀ x, ∃ q, viewL (view2 (Hs x)) (fr x) = (q, enc (g x)) ∧ ∀ p ∈ q, p) :
    SoundE P f X' (fun x => ⟨fr x, Hs x⟩) (fun x => pre (g x)) Y (fun x y => post (g x) y) fun x y => (ren (shiftL (Hs x).length (out (g x) y).2.length) (out (g x) y).1, Hs x ++ (out (g x) y).2) := by
  intro x hp S μ w vals hok hrel
  obtain ⟨q, hq, hq'⟩ := hv x
  have hok : HOK S μ w (Hs x) := hok
  have hrel : RelL S μ w (fr x) vals := hrel
  have hva := view_args hok (as := fr x) (by rw [hq]; exact hq') hrel
  rw [hq] at hva
  have hno : ∀ μ' o b, ¬ Own μ' [] o b := fun μ' o b ⟨z, h, _⟩ => by simp at h
  have hok0 : HOK (Lent S μ (Hs x)) mu0 w [] := ⟨fun o z ho => by simp at ho, fun o cs ho => by simp at ho, fun o o' b _ ho => absurd ho (hno _ o b), fun o b ho => absurd ho (hno _ o b), lent_lt hok, hok.gl.mono (fun _ h => .inl h) fun _ _ => rfl⟩
  refine (hs (g x) hp (Lent S μ (Hs x)) mu0 w vals hok0 hva).mono fun en w' he => ?_
  obtain ⟨v, y, S1, μ1, rfl, hpost, hevo, hR⟩ := he
  have hpl := hpl (g x) y
  have hpr := hpr (g x) y
  have hbl := hbl (g x) y
  generalize hout : out (g x) y = O at hevo hR hpl hpr hbl
  obtain ⟨r, H1⟩ := O
  simp only at hevo hR hpl hpr hbl
  have hblock : ∀ b, b < w.heap.size → w'.heap[b]? = w.heap[b]? := fun b hb => hevo.kept.block b hb fun ⟨o, h⟩ => hno _ o b h
  let μ2 : Nat → OI := fun k => if k < (Hs x).length then μ k else μ1 (k - (Hs x).length)
  have m1 : ∀ k, k < (Hs x).length → μ2 k = μ k := fun k hk => if_pos hk
  have m2 : ∀ k, (Hs x).length ≤ k → μ2 k = μ1 (k - (Hs x).length) := fun k hk => if_neg (by omega)
  have hmine : ∀ o b, Own μ1 H1 o b → w.heap.size ≤ b := fun o b h => (hevo.mine o b h).elim id fun ⟨o', h'⟩ => absurd h' (hno _ o' b)
  have split : ∀ o b, Own μ2 (Hs x ++ H1) o b → (o < (Hs x).length ∧ Own μ (Hs x) o b) ∨ ((Hs x).length ≤ o ∧ Own μ1 H1 (o - (Hs x).length) b) := fun o b h => by
    rcases own_app.1 h with ⟨h1, z, h2, h3⟩ | ⟨h1, z, h2, h3⟩
    · exact .inl ⟨h1, z, h2, by rw [← m1 o h1]; exact h3⟩
    · exact .inr ⟨h1, z, h2, by rw [← m2 o h1]; exact h3⟩
  refine ⟨v, y, S, μ2, rfl, hpost, ?_, ?_⟩
  · show Evo S μ (Hs x) w S μ2 (Hs x ++ (out (g x) y).2) w'
    rw [hout]
    exact {
      sub := fun _ h => h
      new := fun b hb => .inl hb
      mu := fun o ho => m1 o ho
      len := by simp
      kept := ⟨hevo.kept.os, hevo.kept.tape, hevo.kept.output, hevo.kept.size, fun b hb _ => hblock b hb⟩
      mine := fun o b h => by
        rcases split o b h with ⟨_, h⟩ | ⟨_, h⟩
        · exact .inr ⟨o, h⟩
        · exact .inl (hmine _ b h)
      hok := {
        obj := fun o z ho => by
          by_cases hlt : o < (Hs x).length
          · rw [List.getElem?_append_left hlt] at ho
            refine ObjRel_mono (fun _ h => h) (fun b hb => hblock b (hok.inS b hb)) (m1 o hlt) (fun cs hcs k hk => ?_) (fun b hb => hblock b (hok.owns o b ⟨z, ho, hb⟩).2) (hok.obj o z ho)
            subst hcs
            refine m1 k (Classical.byContradiction fun hk' => ?_)
            have := hok.ids o cs ho k (by omega)
            rw [this] at hk; cases hk
          · rw [List.getElem?_append_right (by omega)] at ho
            have hz := hpl z (List.mem_of_getElem? ho)
            have hobj := hevo.hok.obj _ z ho
            have hm := m2 o (by omega)
            cases z with
            | dead => trivial
            | var cs => exact hz.elim
            | fro n e c => exact hz.elim
            | arr n e c =>
              obtain ⟨h1, h2⟩ := hobj
              refine ⟨by rw [hm]; exact h1, ?_⟩
              rw [hm]
              cases hb : (μ1 (o - (Hs x).length)).b with
              | none => rw [hb] at h2; exact h2
              | some b =>
                rw [hb] at h2
                obtain ⟨h3, C, T, h4, h5, h6⟩ := h2
                refine ⟨h3, C, T, h4, h5, fun i hi j hj => ?_⟩
                obtain ⟨u, h7, h8⟩ := h6 i hi j hj
                exact ⟨u, h7, hz i hi j hj _ _ _ _ h8⟩
            | xarr n e c =>
              obtain ⟨h1, h0, h2⟩ := hobj
              refine ⟨by rw [hm]; exact h1, by rw [hm]; exact h0, ?_⟩
              rw [hm]
              cases hb : (μ1 (o - (Hs x).length)).b with
              | none => rw [hb] at h2; exact h2
              | some b =>
                rw [hb] at h2
                obtain ⟨h3, C, T, h4, h5, h6⟩ := h2
                refine ⟨h3, C, T, h4, h5, fun i hi j hj => ?_⟩
                obtain ⟨u, h7, h8⟩ := h6 i hi j hj
                exact ⟨u, h7, hz i hi j hj _ _ _ _ _ _ _ h8⟩
        ids := fun o cs ho k hk => by
          by_cases hlt : o < (Hs x).length
          · rw [List.getElem?_append_left hlt] at ho
            exact hok.ids o cs ho k (by simp at hk; omega)
          · rw [List.getElem?_append_right (by omega)] at ho
            exact (hpl _ (List.mem_of_getElem? ho)).elim
        seps := fun o o' b hne h1 h2 => by
          rcases split o b h1 with ⟨k1, h1⟩ | ⟨k1, h1⟩ <;> rcases split o' b h2 with ⟨k2, h2⟩ | ⟨k2, h2⟩
          · exact hok.seps o o' b hne h1 h2
          · have := (hok.owns o b h1).2; have := hmine _ b h2; omega
          · have := (hok.owns o' b h2).2; have := hmine _ b h1; omega
          · exact hevo.hok.seps _ _ b (by omega) h1 h2
        owns := fun o b h => by
          rcases split o b h with ⟨_, h⟩ | ⟨_, h⟩
          · exact ⟨(hok.owns o b h).1, Nat.lt_of_lt_of_le (hok.owns o b h).2 hevo.kept.size⟩
          · exact ⟨fun hS => by have := hok.inS b hS; have := hmine _ b h; omega, (hevo.hok.owns _ b h).2⟩
        inS := fun b hb => Nat.lt_of_lt_of_le (hok.inS b hb) hevo.kept.size
        gl := hok.gl.mono (fun _ h => h) fun b hb => hblock b (hok.inS b hb) } }
  · show Rel S μ2 w' (ren (shiftL (Hs x).length (out (g x) y).2.length) (out (g x) y).1) v
    rw [hout]
    refine Rel_ren r v (fun k hk => ?_) (hpr S1 S μ1 w' v hR)
    have hk' : k < H1.length := Classical.byContradiction fun h => by
      have := (below_ment (n := H1.length) (k := k) (by omega)).1 r hbl
      rw [this] at hk; cases hk
    rw [shiftL_get hk', m2 _ (by omega), Nat.add_sub_cancel]
end Cg
