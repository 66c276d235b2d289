/-
  Contracts of callees, and a quiet operation whatever its kind. No condition.
-/
import Derived.Test.YtdlmjdnjenhnfaaQsl
namespace Cg
open Go

def mu0 : Nat → OI := fun _ => ⟨none, 0, 0, 0⟩

/-- What a call leaves that hands back a reading and turns nothing that was there. -/
def After (S : Nat → Prop) (μ : Nat → OI) (w : World) (r : AV) (y : Value) (w' : World) (S' : Nat → Prop) : Prop :=
  Ext w w' ∧ (∀ b, S b → S' b) ∧ (∀ b, S' b → S b ∨ w.heap.size ≤ b) ∧ (∀ b, S' b → b < w'.heap.size) ∧ Rel S' μ w' r y

def PureAt (P : Program) (f : FuncId) (args : List AV) (r : AV) : Prop :=
  ∀ (S : Nat → Prop) (w : World) (vals : List Value), (∀ b, S b → b < w.heap.size) → RelL S mu0 w args vals →
    Calls P f vals.toArray w (fun e w' => ∃ y S', e = .returned y ∧ After S mu0 w r y w' S')

def SoundF (P : Program) (f : FuncId) (F : List AV → R) : Prop := ∀ args p r, F args = some (p, r) → (∀ q ∈ p, q) → PureAt P f args r

structure Evo (S : Nat → Prop) (μ : Nat → OI) (H : List AObj) (w : World) (S' : Nat → Prop) (μ' : Nat → OI) (H' : List AObj) (w' : World) : Prop where
  sub : ∀ b, S b → S' b
  new : ∀ b, S' b → S b ∨ w.heap.size ≤ b ∨ Blk μ H b
  mu : ∀ o, o < H.length → μ' o = μ o
  len : H.length ≤ H'.length
  kept : Kept μ H w w'
  mine : ∀ o b, LiveAt H' o → (μ' o).b = some b → w.heap.size ≤ b ∨ Blk μ H b
  hok : HOK S' μ' w' H'

def ACalls (P : Program) (f : FuncId) (args : List AV) (H : List AObj) (K : AV → List AObj → Prop) : Prop :=
  ∀ (S : Nat → Prop) (μ : Nat → OI) (w : World) (vals : List Value), HOK S μ w H → (∀ k, H.length ≤ k → mentL k args = false) → RelL S μ w args vals →
    Calls P f vals.toArray w (fun e w' => ∃ y av H' S' μ', e = .returned y ∧ K av H' ∧ Evo S μ H w S' μ' H' w' ∧ (∀ k, H'.length ≤ k → ment k av = false) ∧ Rel S' μ' w' av y)

def SoundE (P : Program) (f : FuncId) (T : List AV → List AObj → (AV → List AObj → Prop) → Prop) : Prop := ∀ args H K, T args H K → ACalls P f args H K

def Callable (P : Program) (g : FuncId) : Prop := ∃ fn, P.funcs[g]? = some fn ∧ (fn.name == "runtime.NumGoroutine") = false ∧ fn.body.isNone = false

def SoundC (P : Program) (f : FuncId) : Contract → Prop
  | .sc F => Callable P f ∧ SoundF P f F
  | .im F => Callable P f ∧ SoundF P f F
  | .eff T => Callable P f ∧ SoundE P f T

def CtxOK (P : Program) (Γ : Ctx) : Prop := ∀ x, x ∈ Γ → SoundC P x.1 x.2

theorem lookC_some : ∀ {Γ : Ctx} {g : Nat} {c : Contract}, lookC Γ g = some c → (g, c) ∈ Γ
  | [], _, _, h => by simp [lookC] at h
  | (k, d) :: r, g, c, h => by
    unfold lookC at h
    cases hk : Nat.beq k g
    · simp only [hk, cond_false] at h; exact List.mem_cons_of_mem _ (lookC_some h)
    · simp only [hk, cond_true, Option.some.injEq] at h
      have := Nat.eq_of_beq_eq_true hk
      subst this; subst h
      exact List.mem_cons_self

section
variable {P : Program} {S : Nat → Prop} {μ : Nat → OI} {w : World}

/-- Memory that stays as it is while a callee runs: what stays anyhow, and what the caller owns. -/
def Lent (S : Nat → Prop) (μ : Nat → OI) (H : List AObj) : Nat → Prop := fun b => S b ∨ Blk μ H b

theorem lent_lt {H : List AObj} (hH : HOK S μ w H) : ∀ b, Lent S μ H b → b < w.heap.size := fun b hb => by
  rcases hb with hb | ⟨o, h1, h2⟩
  · exact hH.inS b hb
  · exact (hH.own o b h1 h2).2

theorem relI_lent {H : List AObj} {a : AV} {y : Value} (h : RelI S w a y) : RelI (Lent S μ H) w a y := RelI_mono (fun _ hb => .inl hb) (fun _ _ => rfl) _ _ h

theorem view0_sound {H : List AObj} (hH : HOK S μ w H) {a : AV} {y : Value} (hp : ∀ q ∈ (view0 H a).1, q) (h : Rel S μ w a y) : Rel (Lent S μ H) mu0 w (view0 H a).2 y := by
  unfold view0 at hp ⊢
  split
  · rename_i o lo n
    split
    · rename_i m esz cell hl
      have hl := H_getD hl (by simp)
      simp only [hl, List.getD_eq_getElem?_getD, Option.getD_some] at hp
      have hm : lo + n ≤ m := hp _ (List.mem_singleton.2 rfl)
      obtain ⟨he, ho⟩ := hH.obj _ _ hl
      unfold Rel at h
      split at h
      · obtain ⟨rfl, rfl, a, rfl⟩ := h; exact ⟨a, 0, rfl, Nat.le_refl _, .inl rfl⟩
      · rename_i b hb
        obtain ⟨h3, a, rfl, h4⟩ := h
        rw [hb] at ho
        obtain ⟨h5, c, T, h6, h7, h8⟩ := ho
        refine ⟨_, _, rfl, by omega, ?_⟩
        by_cases hn : n = 0
        · exact .inl hn
        · have ha := h4 (by omega)
          subst ha
          refine .inr ⟨b, _, rfl, .inr ⟨o, LiveAt_iff.2 (.inr ⟨_, _, _, hl⟩), hb⟩, c, T, (0, 0), h6, fun i hi j hj => ?_⟩
          obtain ⟨x, h9, h10⟩ := h8 (i + lo) (by omega) j hj
          exact ⟨x, by rw [← h9]; congr 1; rw [he, Nat.add_mul]; omega, relI_lent h10⟩
    · rename_i m esz cell hl
      have hl := H_getD hl (by simp)
      simp only [hl, List.getD_eq_getElem?_getD, Option.getD_some] at hp
      have hm : lo + n ≤ m := hp _ (List.mem_singleton.2 rfl)
      obtain ⟨he, ho⟩ := hH.obj _ _ hl
      unfold Rel at h
      split at h
      · obtain ⟨rfl, rfl, a, rfl⟩ := h; exact ⟨a, 0, rfl, Nat.le_refl _, .inl rfl⟩
      · rename_i b hb
        obtain ⟨h3, a, rfl, h4⟩ := h
        rw [hb] at ho
        obtain ⟨h5, hs, c, T, fr, h6, h8⟩ := ho
        refine ⟨_, _, rfl, by omega, ?_⟩
        by_cases hn : n = 0
        · exact .inl hn
        · have ha := h4 (by omega)
          subst ha
          refine .inr ⟨b, _, rfl, .inl hs, c, T, fr, h6, fun i hi j hj => ?_⟩
          obtain ⟨x, h9, h10⟩ := h8 (i + lo) (by omega) j hj
          exact ⟨x, by rw [← h9]; congr 1; rw [he, Nat.add_mul]; omega, relI_lent h10⟩
    · trivial
  · exact h
  · exact relI_lent h
  · exact relI_lent h
  · trivial

theorem viewL_sound {f : AV → List Prop × AV} {RR : AV → Value → Prop} {S' : Nat → Prop} {μ' : Nat → OI} (hf : ∀ a y, (∀ q ∈ (f a).1, q) → RR a y → Rel S' μ' w (f a).2 y) :
    ∀ {as : List AV} {ys : List Value}, ys.length = as.length → (∀ (i : Nat) (a : AV) (y : Value), as[i]? = some a → ys[i]? = some y → RR a y) → (∀ q ∈ (viewL f as).1, q) → RelL S' μ' w (viewL f as).2 ys
  | [], ys, hl, _, _ => by simpa [viewL, RelL] using hl
  | a :: as, [], hl, _, _ => by simp at hl
  | a :: as, y :: ys, hl, h, hp => by
    simp only [viewL] at hp ⊢
    exact ⟨y, ys, rfl, hf a y (fun q hq => hp q (List.mem_append_left _ hq)) (h 0 a y rfl rfl),
      viewL_sound hf (by simpa using hl) (fun i a y h1 h2 => h (i + 1) a y (by simpa using h1) (by simpa using h2)) (fun q hq => hp q (List.mem_append_right _ hq))⟩

theorem viewL_length {f : AV → List Prop × AV} : ∀ (as : List AV), (viewL f as).2.length = as.length
  | [] => rfl
  | a :: as => by simp [viewL, viewL_length as]

theorem RelL_pairs {as : List AV} {ys : List Value} (h : RelL S μ w as ys) : ys.length = as.length ∧ ∀ (i : Nat) (a : AV) (y : Value), as[i]? = some a → ys[i]? = some y → Rel S μ w a y :=
  ⟨RelL_length h, fun i a y h1 h2 => by obtain ⟨y', h3, h4⟩ := RelL_get h h1; rw [h2] at h3; cases h3; exact h4⟩

theorem view1_sound {H : List AObj} (hH : HOK S μ w H) {a : AV} {y : Value} (hp : ∀ q ∈ (view1 H a).1, q) (h : Rel S μ w a y) : Rel (Lent S μ H) mu0 w (view1 H a).2 y := by
  unfold view1 at hp ⊢
  split
  · rename_i o off
    split
    · rename_i cs hl
      have hl := H_getD hl (by simp)
      simp only [hl, List.getD_eq_getElem?_getD, Option.getD_some] at hp
      obtain ⟨b, hb, rfl⟩ := h
      obtain ⟨b', c, T, h1, h2, h3, h30⟩ := hH.obj _ _ hl
      rw [hb] at h1; cases h1
      refine ⟨b, 0, by simp, .inr ⟨o, LiveAt_iff.2 (.inl ⟨_, hl⟩), hb⟩, c, T, (0, 0), h2, fun i hi j hj => ?_⟩
      have hv := viewL_sound (f := view0 H) (RR := Rel S μ w) (S' := Lent S μ H) (μ' := mu0) (fun a y hq hr => view0_sound hH hq hr) (RelL_pairs h3).1 (RelL_pairs h3).2 hp
      have hcell : (viewL (view0 H) cs).2[j]? = some (viewL (view0 H) cs).2[j] := List.getElem?_eq_getElem hj
      have hi0 : i = 0 := by omega
      subst hi0
      have hcj : j < cs.length := by rwa [viewL_length] at hj
      obtain ⟨x, h4, h5⟩ := RelL_get h3 (List.getElem?_eq_getElem hcj)
      refine ⟨x, by rw [← h4, Array.getElem?_toList]; congr 1; simp, ?_⟩
      obtain ⟨x', h6, h7⟩ := RelL_get hv hcell
      rw [h4] at h6; cases h6
      have e1 : (viewL (view0 H) cs).2.getD j AV.any = (viewL (view0 H) cs).2[j] := by rw [List.getD_eq_getElem?_getD, hcell]; rfl
      show RelI _ w ((viewL (view0 H) cs).2.getD j AV.any) x
      rw [e1]
      have himm : isImm (viewL (view0 H) cs).2[j] = true := by
        have key : ∀ (l : List AV) (j : Nat) (a : AV), (viewL (view0 H) l).2[j]? = some a → isImm a = true := by
          intro l
          induction l with
          | nil => intro j a h; simp [viewL] at h
          | cons z l ih =>
            intro j a h
            cases j with
            | zero =>
              simp only [viewL, List.getElem?_cons_zero, Option.some.injEq] at h
              subst h
              unfold view0
              split <;> first | rfl | (split <;> rfl)
            | succ j => simp only [viewL, List.getElem?_cons_succ] at h; exact ih j a h
        exact key _ _ _ hcell
      exact RelI_of_Rel himm (h30 x (List.mem_of_getElem? h4)) h7
    · trivial
  · obtain ⟨b, o, rfl, h1⟩ := h
    exact ⟨b, o, rfl, RowI_mono (fun _ hb => .inl hb) (fun _ _ => rfl) h1⟩
  · rename_i h1 h2
    exact view0_sound hH (by simpa [view1] using hp) h

theorem view2_sound {H : List AObj} (hH : HOK S μ w H) {a : AV} {y : Value} (hp : ∀ q ∈ (view2 H a).1, q) (h : Rel S μ w a y) : Rel (Lent S μ H) mu0 w (view2 H a).2 y := by
  unfold view2 at hp ⊢
  split
  · obtain ⟨vs, rfl, h⟩ := h
    exact ⟨vs, rfl, viewL_sound (f := view0 H) (RR := Rel S μ w) (fun a y hq hr => view0_sound hH hq hr) (RelL_pairs h).1 (RelL_pairs h).2 hp⟩
  · obtain ⟨vs, rfl, h⟩ := h
    exact ⟨vs, rfl, viewL_sound (f := view0 H) (RR := Rel S μ w) (fun a y hq hr => view0_sound hH hq hr) (RelL_pairs h).1 (RelL_pairs h).2 hp⟩
  · obtain ⟨vs, rfl, h⟩ := h
    exact ⟨vs, rfl, viewL_sound (f := view1 H) (RR := Rel S μ w) (fun a y hq hr => view1_sound hH hq hr) (RelL_pairs h).1 (RelL_pairs h).2 hp⟩
  · exact view1_sound hH (by simpa [view2] using hp) h

theorem view_args {H : List AObj} (hH : HOK S μ w H) {as : List AV} {ys : List Value} (hp : ∀ q ∈ (viewL (view2 H) as).1, q) (h : RelL S μ w as ys) : RelL (Lent S μ H) mu0 w (viewL (view2 H) as).2 ys :=
  viewL_sound (f := view2 H) (RR := Rel S μ w) (fun _ _ hq hr => view2_sound hH hq hr) (RelL_pairs h).1 (RelL_pairs h).2 hp

/-- A scalar reads the same anywhere. -/
theorem scalar_any {S' : Nat → Prop} {μ' : Nat → OI} {w' : World} {r : AV} {y : Value} (hs : isScalar r = true) (h : Rel S μ w r y) : Rel S' μ' w' r y := by
  have key : ∀ (cs : List AV) (vs : List Value), (∀ a, a ∈ cs → ∃ x, a = .v x) → RelL S μ w cs vs → RelL S' μ' w' cs vs := by
    intro cs
    induction cs with
    | nil => intro vs _ h; exact h
    | cons a cs ih =>
      intro vs ha h
      obtain ⟨y, r, rfl, h1, h2⟩ := h
      obtain ⟨x, rfl⟩ := ha a (by simp)
      exact ⟨y, r, rfl, h1, ih r (fun b hb => ha b (by simp [hb])) h2⟩
  unfold isScalar at hs
  split at hs
  · exact h
  · obtain ⟨vs, rfl, h⟩ := h
    refine ⟨vs, rfl, key _ _ (fun a ha => ?_) h⟩
    have := List.all_eq_true.1 hs a ha
    split at this
    · exact ⟨_, rfl⟩
    · cases this
  · obtain ⟨vs, rfl, h⟩ := h
    refine ⟨vs, rfl, key _ _ (fun a ha => ?_) h⟩
    have := List.all_eq_true.1 hs a ha
    split at this
    · exact ⟨_, rfl⟩
    · cases this
  · cases hs

theorem scalar_ment {k : Nat} {r : AV} (hs : isScalar r = true) : ment k r = false := by
  have key : ∀ (cs : List AV), (∀ a, a ∈ cs → ∃ x, a = .v x) → mentL k cs = false := fun cs h => mentL_of fun a ha => by obtain ⟨x, rfl⟩ := h a ha; rfl
  unfold isScalar at hs
  split at hs
  · rfl
  · refine key _ fun a ha => ?_
    have := List.all_eq_true.1 hs a ha
    split at this
    · exact ⟨_, rfl⟩
    · cases this
  · refine key _ fun a ha => ?_
    have := List.all_eq_true.1 hs a ha
    split at this
    · exact ⟨_, rfl⟩
    · cases this
  · cases hs

theorem imm_rel {μ' : Nat → OI} {a : AV} {y : Value} (hi : immA a = true) (h : Rel S μ w a y) : Rel S μ' w a y := by
  have one : ∀ (a : AV) (y : Value), isImm a = true → Rel S μ w a y → Rel S μ' w a y := fun a y ha hr => Rel_imm ha hr
  have key : ∀ (cs : List AV) (vs : List Value), (∀ (a : AV) (y : Value), a ∈ cs → Rel S μ w a y → Rel S μ' w a y) → RelL S μ w cs vs → RelL S μ' w cs vs := by
    intro cs
    induction cs with
    | nil => intro vs _ h; exact h
    | cons a cs ih =>
      intro vs ha h
      obtain ⟨y, r, rfl, h1, h2⟩ := h
      exact ⟨y, r, rfl, ha a y (by simp) h1, ih r (fun b y hb => ha b y (by simp [hb])) h2⟩
  unfold immA at hi
  split at hi
  · obtain ⟨vs, rfl, h⟩ := h
    exact ⟨vs, rfl, key _ _ (fun a y ha => one a y (List.all_eq_true.1 hi a ha)) h⟩
  · obtain ⟨vs, rfl, h⟩ := h
    exact ⟨vs, rfl, key _ _ (fun a y ha => one a y (List.all_eq_true.1 hi a ha)) h⟩
  · obtain ⟨vs, rfl, h⟩ := h
    refine ⟨vs, rfl, key _ _ (fun a y ha hr => ?_) h⟩
    have := List.all_eq_true.1 hi a ha
    split at this
    · exact hr
    · exact one _ _ this hr
  · exact h
  · exact one _ _ hi h

theorem immL_rel {μ' : Nat → OI} {as : List AV} {ys : List Value} (hi : immL as = true) (h : RelL S μ w as ys) : RelL S μ' w as ys := by
  unfold immL at hi
  induction as generalizing ys with
  | nil => exact h
  | cons a as ih =>
    simp only [List.all_cons, Bool.and_eq_true] at hi
    obtain ⟨y, r, rfl, h1, h2⟩ := h
    exact ⟨y, r, rfl, imm_rel hi.1 h1, ih hi.2 h2⟩

theorem callFunc_run {g : FuncId} (hc : Callable P g) (args : Array Value) : (callFunc g args).run P w = .ok (.enter g args) w := by
  obtain ⟨fn, h1, h2, h3⟩ := hc
  simp only [callFunc, Sem.run_bind, run_program, Result.andThen_ok, h1, h2, h3]
  rfl

end
end Cg
