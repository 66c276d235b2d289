/-
  Code of the machine, held against the model's: loops by what is known at their heads. No condition.
-/
import Derived.Test.YtdlmjdnjenhnfaaReg
namespace Cg
open Go

theorem below_ment {n k : Nat} (hk : n ≤ k) : (∀ (a : AV), below n a = true → ment k a = false) ∧ (∀ (l : List AV), belowL n l = true → mentL k l = false) := by
  have ptr : ∀ o, Nat.blt o n = true → Nat.beq k o = false := fun o h => by
    have := blt_iff.1 h
    cases hb : Nat.beq k o
    · rfl
    · have := beq_iff.1 hb; omega
  constructor
  · exact go1 ptr
  · exact go2 ptr
  where
  go1 {n k : Nat} (ptr : ∀ o, Nat.blt o n = true → Nat.beq k o = false) : ∀ (a : AV), below n a = true → ment k a = false
    | .v _, _ => rfl
    | .any, _ => rfl
    | .agg cs, h => go2 ptr cs h
    | .tup cs, h => go2 ptr cs h
    | .fn _ cs, h => go2 ptr cs h
    | .sl _ _ _, _ => rfl
    | .lit _ _ _, _ => rfl
    | .el _ _ _ _ _, _ => rfl
    | .ptr o _, h => ptr o h
    | .osl o _ _, h => ptr o h
    | .oel o _ _, h => ptr o h
  go2 {n k : Nat} (ptr : ∀ o, Nat.blt o n = true → Nat.beq k o = false) : ∀ (l : List AV), belowL n l = true → mentL k l = false
    | [], _ => rfl
    | a :: l, h => by
      simp only [belowL, Bool.and_eq_true] at h
      simp only [mentL, Bool.or_eq_false_iff]
      exact ⟨go1 ptr a h.1, go2 ptr l h.2⟩

theorem belowH_var {n : Nat} : ∀ {H : List AObj} {o : Nat} {cs : List AV}, belowH n H = true → H[o]? = some (.var cs) → belowL n cs = true
  | [], _, _, _, h => by simp at h
  | x :: H, o, cs, h, ho => by
    cases o with
    | zero => simp at ho; subst ho; simp only [belowH, Bool.and_eq_true] at h; exact h.1
    | succ o =>
      simp at ho
      refine belowH_var (H := H) (o := o) ?_ ho
      cases x <;> simp only [belowH, Bool.and_eq_true] at h <;> first | exact h.2 | exact h

section
variable {S : Nat → Prop} {μ : Nat → OI} {w : World}

theorem relI_row_congr {n e : Nat} {c c' : Nat → Nat → AV} (h : ∀ i, i < n → ∀ j, j < e → c i j = c' i j) {C : Array Value} {off : Nat} (hx : ∀ i, i < n → ∀ j, j < e → ∃ x, C[off + i * e + j]? = some x ∧ RelI S w (c i j) x) :
    ∀ i, i < n → ∀ j, j < e → ∃ x, C[off + i * e + j]? = some x ∧ RelI S w (c' i j) x := fun i hi j hj => by
  obtain ⟨x, h1, h2⟩ := hx i hi j hj
  exact ⟨x, h1, by rw [← h i hi j hj]; exact h2⟩

mutual
/-- A value that says less. -/
theorem avLe_sound {μ' : Nat → OI} {g : Nat} (hμ : ∀ k, k < g → μ' k = μ k) (hnew : ∀ k, g ≤ k → (μ' k).b = none) {a b : AV} {y : Value} (hm : ∀ k, g ≤ k → ment k a = false) (h : avLe g a b) (hr : Rel S μ w a y) : Rel S μ' w b y := by
  have same : Rel S μ' w a y := Rel_mono (fun _ h => h) (fun _ _ => rfl) _ _ (fun k hk => hμ k (by
    rcases Nat.lt_or_ge k g with h | h
    · exact h
    · rw [hm k h] at hk; cases hk)) hr
  unfold avLe at h
  split at h
  · trivial
  · obtain ⟨rfl, rfl⟩ := h; exact same
  · subst h; exact same
  · subst h; exact same
  · obtain ⟨rfl, rfl, h⟩ := h
    obtain ⟨A, cap, rfl, hcap, hrow⟩ := hr
    refine ⟨A, cap, rfl, hcap, hrow.imp id ?_⟩
    rintro ⟨b, off, hA, hb, C, T, fr, hc, hx⟩
    exact ⟨b, off, hA, hb, C, T, fr, hc, relI_row_congr h hx⟩
  · obtain ⟨rfl, rfl, h⟩ := h
    obtain ⟨A, rfl, hrow⟩ := hr
    refine ⟨A, rfl, hrow.imp id ?_⟩
    rintro ⟨b, off, hA, hb, C, T, fr, hc, hx⟩
    exact ⟨b, off, hA, hb, C, T, fr, hc, relI_row_congr h hx⟩
  · obtain ⟨rfl, h⟩ := h
    obtain ⟨A, rfl, hrow⟩ := hr
    refine ⟨A, _, rfl, Nat.le_refl _, ?_⟩
    rcases h with h0 | ⟨rfl, h⟩
    · exact .inl h0
    · refine hrow.imp id ?_
      rintro ⟨b, off, hA, hb, C, T, fr, hc, hx⟩
      exact ⟨b, off, hA, hb, C, T, fr, hc, relI_row_congr h hx⟩
  · obtain ⟨hg, rfl, rfl, rfl⟩ := h
    obtain ⟨A, rfl, _⟩ := hr
    unfold Rel
    rw [hnew _ hg]
    exact ⟨rfl, rfl, A, rfl⟩
  · obtain ⟨rfl, rfl, rfl⟩ := h; exact same
  · obtain ⟨rfl, rfl, rfl, rfl, h⟩ := h
    obtain ⟨b, o, rfl, hS, C, T, fr, hc, hx⟩ := hr
    exact ⟨b, o, rfl, hS, C, T, fr, hc, relI_row_congr h hx⟩
  · obtain ⟨vs, rfl, hr⟩ := hr
    exact ⟨vs, rfl, frLe_sound hμ hnew hm h hr⟩
  · obtain ⟨vs, rfl, hr⟩ := hr
    exact ⟨vs, rfl, frLe_sound hμ hnew hm h hr⟩
  · obtain ⟨rfl, h⟩ := h
    obtain ⟨vs, rfl, hr⟩ := hr
    exact ⟨vs, rfl, frLe_sound hμ hnew hm h hr⟩
  · subst h; exact same

theorem frLe_sound {μ' : Nat → OI} {g : Nat} (hμ : ∀ k, k < g → μ' k = μ k) (hnew : ∀ k, g ≤ k → (μ' k).b = none) : ∀ {as bs : List AV} {ys : List Value}, (∀ k, g ≤ k → mentL k as = false) → frLe g as bs → RelL S μ w as ys → RelL S μ' w bs ys
  | [], [], _, _, _, h => h
  | [], _ :: _, _, _, h, _ => by simp [frLe] at h
  | _ :: _, [], _, _, h, _ => by simp [frLe] at h
  | a :: as, b :: bs, ys, hm, h, hr => by
    obtain ⟨y, r, rfl, h1, h2⟩ := hr
    have hm1 : ∀ k, g ≤ k → ment k a = false := fun k hk => by have := hm k hk; simp only [mentL, Bool.or_eq_false_iff] at this; exact this.1
    have hm2 : ∀ k, g ≤ k → mentL k as = false := fun k hk => by have := hm k hk; simp only [mentL, Bool.or_eq_false_iff] at this; exact this.2
    unfold frLe at h
    split at h
    · rename_i h0; cases h0
    · rename_i heq1 heq2
      cases heq1; cases heq2
      exact ⟨y, r, rfl, trivial, frLe_sound hμ hnew hm2 h h2⟩
    · rename_i heq1 heq2
      cases heq1; cases heq2
      exact ⟨y, r, rfl, avLe_sound hμ hnew hm1 h.1 h1, frLe_sound hμ hnew hm2 h.2 h2⟩
    · exact h.elim
end

theorem hLe_at {g : Nat} : ∀ {H H' : List AObj}, hLe g H H' → ∀ (o : Nat) (x' : AObj), H'[o]? = some x' → (∃ x, H[o]? = some x ∧ objLe g x x') ∨ (H.length ≤ o ∧ ∃ e c, x' = .arr 0 e c)
  | _, [], _, o, x', h => by simp at h
  | a :: as, b :: bs, h, o, x', ho => by
    cases o with
    | zero => simp at ho; subst ho; exact .inl ⟨a, by simp, h.1⟩
    | succ o =>
      simp at ho
      rcases hLe_at h.2 o x' ho with ⟨x, h1, h2⟩ | ⟨h1, h2⟩
      · exact .inl ⟨x, by simpa using h1, h2⟩
      · exact .inr ⟨by simp; omega, h2⟩
  | [], b :: bs, h, o, x', ho => by
    cases b <;> simp only [hLe] at h
    obtain ⟨rfl, h⟩ := h
    cases o with
    | zero => simp at ho; subst ho; exact .inr ⟨Nat.zero_le _, _, _, rfl⟩
    | succ o =>
      simp at ho
      rcases hLe_at h o x' ho with ⟨x, h1, _⟩ | ⟨_, h2⟩
      · simp at h1
      · exact .inr ⟨by simp, h2⟩

/-- A state that says less. -/
theorem G.weaken {E : Ent} {s t : St} {a : Act} {base : Nat} (hb : E.H.length = base) (hg : G E s a w) (h : s.le base t) : G E t a w := by
  obtain ⟨S, μ, g⟩ := hg
  unfold St.le at h
  cases hc : Nat.ble base t.H.length && belowL t.H.length t.fr && belowH t.H.length t.H
  · rw [hc] at h; exact h.elim
  rw [hc] at h
  simp only [cond_true] at h
  simp only [Bool.and_eq_true] at hc
  obtain ⟨⟨hc1, hc2⟩, hc3⟩ := hc
  obtain ⟨hf, hH⟩ := h
  let μ' : Nat → OI := fun k => if k < s.H.length then μ k else ⟨none, 0, 0, match t.H[k]? with | some (.arr _ e _) => e | _ => 0⟩
  have hμ : ∀ k, k < s.H.length → μ' k = μ k := fun k hk => if_pos hk
  have hnew : ∀ k, s.H.length ≤ k → (μ' k).b = none := fun k hk => by show (if k < s.H.length then μ k else _).b = none; rw [if_neg (by omega)]
  have hlive : ∀ k, LiveAt t.H k → (μ' k).b = none ∨ (LiveAt s.H k ∧ k < s.H.length) := fun k hk => by
    rcases Nat.lt_or_ge k s.H.length with h | h
    · refine .inr ⟨?_, h⟩
      rcases LiveAt_iff.1 hk with ⟨cs, h1⟩ | ⟨n, e, c, h1⟩ <;> rcases hLe_at hH k _ h1 with ⟨x, h2, h3⟩ | ⟨h2, _⟩
      · cases x <;> simp only [objLe] at h3
        exact LiveAt_iff.2 (.inl ⟨_, h2⟩)
      · omega
      · cases x <;> simp only [objLe] at h3
        exact LiveAt_iff.2 (.inr ⟨_, _, _, h2⟩)
      · omega
    · exact .inl (hnew k h)
  have hlen : E.H.length ≤ t.H.length := by rw [hb]; exact ble_iff.1 hc1
  refine ⟨S, μ', ⟨g.defers, frLe_sound hμ hnew g.ids hf g.fr, fun k hk => (below_ment hk).2 _ hc2, ?_, g.sub, g.new, fun o ho => (hμ o (Nat.lt_of_lt_of_le ho g.len)).trans (g.mu o ho), hlen, g.kept, fun k b hk hb' => ?_⟩⟩
  · refine { obj := fun o x' ho => ?_, ids := fun o cs ho k hk => (below_ment hk).2 _ (belowH_var hc3 ho), sep := fun o o' b h1 h2 hne hb1 hb2 => ?_, own := fun o b h1 hb1 => ?_, inS := g.hok.inS }
    · rcases hLe_at hH o x' ho with ⟨x, h1, h2⟩ | ⟨h1, e, c, rfl⟩
      · have ho' : o < s.H.length := (List.getElem?_eq_some_iff.1 h1).1
        have hR := g.hok.obj o x h1
        cases x' with
        | dead => trivial
        | var cs' =>
          cases x <;> simp only [objLe] at h2
          obtain ⟨b, C, T, h3, h4, h5, h6⟩ := hR
          exact ⟨b, C, T, by rw [hμ o ho']; exact h3, h4, frLe_sound hμ hnew (fun k hk => g.hok.ids o _ h1 k hk) h2 h5, h6⟩
        | arr n' e' c' =>
          cases x <;> simp only [objLe] at h2
          obtain ⟨rfl, rfl, h2⟩ := h2
          obtain ⟨h3, h4⟩ := hR
          refine ⟨by rw [hμ o ho']; exact h3, ?_⟩
          rw [hμ o ho']
          cases hq : (μ o).b with
          | none => rw [hq] at h4; exact h4
          | some b =>
            rw [hq] at h4
            obtain ⟨h5, C, T, h6, h7, h8⟩ := h4
            exact ⟨h5, C, T, h6, h7, relI_row_congr h2 h8⟩
        | fro n' e' c' =>
          cases x <;> simp only [objLe] at h2
          obtain ⟨rfl, rfl, h2⟩ := h2
          obtain ⟨h3, h4⟩ := hR
          refine ⟨by rw [hμ o ho']; exact h3, ?_⟩
          rw [hμ o ho']
          cases hq : (μ o).b with
          | none => rw [hq] at h4; exact h4
          | some b =>
            rw [hq] at h4
            obtain ⟨h5, hs, C, T, fr, h6, h8⟩ := h4
            exact ⟨h5, hs, C, T, fr, h6, relI_row_congr h2 h8⟩
      · have e1 : μ' o = ⟨none, 0, 0, e⟩ := by
          show (if o < s.H.length then μ o else _) = _
          rw [if_neg (by omega), ho]
        refine ⟨by rw [e1], ?_⟩
        rw [e1]
    · rcases hlive o h1 with h3 | ⟨h3, h3'⟩
      · rw [h3] at hb1; cases hb1
      · rcases hlive o' h2 with h4 | ⟨h4, h4'⟩
        · rw [h4] at hb2; cases hb2
        · rw [hμ o h3'] at hb1
          rw [hμ o' h4'] at hb2
          exact g.hok.sep o o' b h3 h4 hne hb1 hb2
    · rcases hlive o h1 with h3 | ⟨h3, h3'⟩
      · rw [h3] at hb1; cases hb1
      · rw [hμ o h3'] at hb1
        exact g.hok.own o b h3 hb1
  · rcases hlive k hk with h3 | ⟨h3, h3'⟩
    · rw [h3] at hb'; cases hb'
    · rw [hμ k h3'] at hb'
      exact g.mine k b h3 hb'

end

theorem exists_min {p : Nat → Prop} (h : ∃ n, p n) : ∃ n, p n ∧ ∀ k, p k → n ≤ k := by
  obtain ⟨n, hn⟩ := h
  induction n using Nat.strongRecOn with
  | _ n ih =>
    by_cases h : ∃ k, k < n ∧ p k
    · obtain ⟨k, hk, hp⟩ := h
      exact ih k hk hp
    · exact ⟨n, hn, fun k hk => Nat.le_of_not_lt fun hlt => h ⟨k, hlt, hk⟩⟩

section
variable {P : Program} {E : Ent} {base : Nat} {Γ : Ctx}

/-- What is asked at the code's ends. -/
def Ends (E : Ent) (Q : Exit → St → Prop) (e : Exit) (a : Act) (w : World) : Prop := ∃ st, Q e st ∧ G E st a w

theorem wp_loop_any {c : Code} {Q : Exit → Act → World → Prop} {X : Type} (I : X → Act → World → Prop) (m : X → Nat) {a : Act} {w : World} (h₀ : ∃ x, I x a w)
    (round : ∀ x a w, I x a w → c.wp P (Exit.then (fun a' w' => ∃ x', m x' < m x ∧ I x' a' w') Q) a w) : (Code.loop c).wp P Q a w := by
  let p : Act → World → Nat → Prop := fun a w n => ∃ x, m x = n ∧ I x a w
  let μ : Act → World → Nat := fun a w => open Classical in if h : ∃ n, p a w n then Classical.choose (exists_min h) else 0
  have hμ : ∀ a w, (∃ x, I x a w) → (∃ x, m x = μ a w ∧ I x a w) ∧ ∀ x, I x a w → μ a w ≤ m x := fun a w ⟨x, hx⟩ => by
    have h : ∃ n, p a w n := ⟨m x, x, rfl, hx⟩
    have e : μ a w = Classical.choose (exists_min h) := dif_pos h
    obtain ⟨h1, h2⟩ := Classical.choose_spec (exists_min h)
    rw [e]
    exact ⟨h1, fun y hy => h2 _ ⟨y, rfl, hy⟩⟩
  refine wp_loop (fun a w => ∃ x, I x a w) μ h₀ fun a w hI => ?_
  obtain ⟨⟨x, hx, hIx⟩, _⟩ := hμ a w hI
  refine wp_mono (round x a w hIx) fun e a' w' he => ?_
  cases e with
  | normal =>
    obtain ⟨x', hlt, hI'⟩ := he
    exact ⟨⟨x', hI'⟩, Nat.lt_of_le_of_lt ((hμ a' w' ⟨x', hI'⟩).2 x' hI') (hx ▸ hlt)⟩
  | _ => exact he

theorem awp_sound (hm : P.follows .mixedOrders = true) (hΓ : CtxOK P Γ) (hb : E.H.length = base) : ∀ (c : Code) (an : List Ann) (Q : Exit → St → Prop) (s : St) (a : Act) (w : World),
    awp P Γ base c an Q s → G E s a w → c.wp P (Ends E Q) a w
  | .skip, _, _, s, _, _, h, hg => wp_skip ⟨s, h, hg⟩
  | .region id ops draw, _, Q, s, a, w, h, hg => by
    simp only [awp] at h
    exact wp_mono (region_sound hm hΓ (Nat.le_of_eq hb) hg h) fun e a w he => by cases e <;> first | exact he | exact he.elim
  | .seq c d, an, Q, s, a, w, h, hg => by
    simp only [awp] at h
    refine wp_seq (wp_mono (awp_sound hm hΓ hb c an _ s a w h hg) fun e a w he => ?_)
    obtain ⟨st, hq, hg'⟩ := he
    cases e with
    | normal => exact awp_sound hm hΓ hb d _ Q st a w hq hg'
    | _ => exact ⟨st, hq, hg'⟩
  | .cond c x y, an, Q, s, a, w, h, hg => by
    simp only [awp] at h
    split at h
    · rename_i t ht
      have hev : a.eval c = .bool t := by
        obtain ⟨S, μ, g⟩ := hg
        have := g.ev c
        rw [ht] at this
        exact this
      refine wp_cond hev ?_
      cases t
      · exact awp_sound hm hΓ hb y _ Q s a w h hg
      · exact awp_sound hm hΓ hb x _ Q s a w h hg
    · exact h.elim
  | .block id c, an, Q, s, a, w, h, hg => by
    simp only [awp] at h
    refine wp_block (wp_mono (awp_sound hm hΓ hb c an _ s a w h hg) fun e a w he => ?_)
    obtain ⟨st, hq, hg'⟩ := he
    cases e with
    | exit id' =>
      simp only [Exit.inBlock]
      simp only at hq
      by_cases hid : id' = id
      · rw [beq_iff.2 hid] at hq
        rw [if_pos hid]
        exact ⟨st, hq, hg'⟩
      · rw [if_neg hid]
        cases hbq : Nat.beq id' id
        · rw [hbq] at hq; exact ⟨st, hq, hg'⟩
        · exact absurd (beq_iff.1 hbq) hid
    | _ => exact ⟨st, hq, hg'⟩
  | .loop c, an, Q, s, a, w, h, hg => by
    simp only [awp] at h
    split at h
    · rename_i X pre st m inner _
      obtain ⟨⟨x, hx, hle⟩, hround⟩ := h
      refine wp_loop_any (fun (x : X) a w => pre x ∧ G E (st x) a w) m ⟨x, hx, hg.weaken hb hle⟩ fun x a w ⟨hpx, hgx⟩ => ?_
      refine wp_mono (awp_sound hm hΓ hb c (inner x) _ (st x) a w (hround x hpx) hgx) fun e a' w' he => ?_
      obtain ⟨st', hq, hg'⟩ := he
      cases e with
      | normal =>
        obtain ⟨x', h1, h2, h3⟩ := hq
        exact ⟨x', h2, h1, hg'.weaken hb h3⟩
      | _ => exact ⟨st', hq, hg'⟩
    · exact h.elim
  | .exit id, _, _, s, _, _, h, hg => wp_exit ⟨s, h, hg⟩
  | .ret, _, _, s, _, _, h, hg => wp_ret ⟨s, h, hg⟩
  | .rangeFunc _ _ _ _, _, _, _, _, _, h, _ => by simp [awp] at h
  | .scope _, _, _, _, _, _, h, _ => by simp [awp] at h
  | .label _, _, _, _, _, _, h, _ => by simp [awp] at h
  | .goto _, _, _, _, _, _, h, _ => by simp [awp] at h
  | .refuse _, _, _, _, _, _, h, _ => by simp [awp] at h

end
end Cg
