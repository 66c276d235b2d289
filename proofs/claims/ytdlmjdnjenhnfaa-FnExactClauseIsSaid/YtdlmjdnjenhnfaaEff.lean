/-
  An object of the call's own is laid or turned. No condition.
-/
import Derived.Test.YtdlmjdnjenhnfaaQall
namespace Cg
open Go

def upd (μ : Nat → OI) (o : Nat) (q : OI) : Nat → OI := fun k => if k = o then q else μ k
theorem upd_same (μ : Nat → OI) (o : Nat) (q : OI) : upd μ o q o = q := if_pos rfl
theorem upd_other (μ : Nat → OI) {o k : Nat} (q : OI) (h : k ≠ o) : upd μ o q k = μ k := if_neg h
theorem upd_id (μ : Nat → OI) (o : Nat) : upd μ o (μ o) = μ := by funext k; unfold upd; split <;> simp_all

/-- One entry of the list of objects. -/
structure Placed (H H' : List AObj) (o : Nat) (x : AObj) : Prop where
  le : o ≤ H.length
  at_ : H'[o]? = some x
  other : ∀ k, k ≠ o → H'[k]? = H[k]?
  len : H.length ≤ H'.length

theorem placed_append (H : List AObj) (x : AObj) : Placed H (H ++ [x]) H.length x where
  le := Nat.le_refl _
  at_ := by simp
  other k hk := by
    by_cases h : k < H.length
    · rw [List.getElem?_append_left h]
    · rw [List.getElem?_append_right (by omega), List.getElem?_eq_none (by simp; omega), List.getElem?_eq_none (by omega)]
  len := by simp

theorem placed_set {H : List AObj} {o : Nat} (h : o < H.length) (x : AObj) : Placed H (H.set o x) o x where
  le := Nat.le_of_lt h
  at_ := List.getElem?_set_self h
  other k hk := List.getElem?_set_ne (Ne.symm hk)
  len := by simp

theorem Placed.live {H H' : List AObj} {o k : Nat} {x : AObj} (h : Placed H H' o x) (hk : k ≠ o) : LiveAt H' k ↔ LiveAt H k := by
  unfold LiveAt; rw [h.other k hk]

section
variable {P : Program} {S : Nat → Prop} {μ : Nat → OI} {w : World}

theorem HOK.place {H H' : List AObj} {o : Nat} {x : AObj} (h : HOK S μ w H) (hP : Placed H H' o x) (q : OI) (hno : q = μ o ∨ ∀ k cs, k ≠ o → H[k]? = some (.var cs) → mentL o cs = false)
    {w' : World} (hsz : w.heap.size ≤ w'.heap.size) (hw : ∀ b, b < w.heap.size → q.b ≠ some b → w'.heap[b]? = w.heap[b]?)
    (hq : ∀ b, q.b = some b → ¬ S b ∧ b < w'.heap.size ∧ ∀ k, k ≠ o → LiveAt H k → (μ k).b ≠ some b)
    (hx : ObjRel S (upd μ o q) w' o x) (hids : ∀ cs, x = .var cs → ∀ k, H'.length ≤ k → mentL k cs = false) : HOK S (upd μ o q) w' H' := by
  have hSb : ∀ k, S k → w'.heap[k]? = w.heap[k]? := fun k hk => hw k (h.inS k hk) fun e => (hq k e).1 hk
  refine { obj := fun k y hk => ?_, ids := fun k cs hk j hj => ?_, sep := fun k k' c hk hk' hne hc hc' => ?_, own := fun k c hk hc => ?_, inS := fun c hc => Nat.lt_of_lt_of_le (h.inS c hc) hsz }
  · by_cases hko : k = o
    · subst hko
      rw [hP.at_] at hk; cases hk; exact hx
    · rw [hP.other k hko] at hk
      refine ObjRel_mono (fun _ h => h) hSb (upd_other _ _ hko) (fun cs hcs j hj => ?_) (fun hl c hc => hw c (h.own k c ((LiveAt_one hk).1 hl) hc).2 fun e => (hq c e).2.2 k hko ((LiveAt_one hk).1 hl) hc) (h.obj k y hk)
      by_cases hjo : j = o
      · subst hjo
        rw [upd_same]
        rcases hno with he | he
        · exact he
        · subst hcs; rw [he k cs hko hk] at hj; cases hj
      · exact upd_other _ _ hjo
  · by_cases hko : k = o
    · subst hko
      rw [hP.at_] at hk; cases hk; exact hids cs rfl j hj
    · rw [hP.other k hko] at hk
      exact h.ids k cs hk j (Nat.le_trans hP.len hj)
  · by_cases hko : k = o
    · subst hko
      rw [upd_same] at hc
      rw [upd_other _ _ (Ne.symm hne)] at hc'
      exact (hq c hc).2.2 k' (Ne.symm hne) ((hP.live (Ne.symm hne)).1 hk') hc'
    · rw [upd_other _ _ hko] at hc
      by_cases hko' : k' = o
      · subst hko'
        rw [upd_same] at hc'
        exact (hq c hc').2.2 k hko ((hP.live hko).1 hk) hc
      · rw [upd_other _ _ hko'] at hc'
        exact h.sep k k' c ((hP.live hko).1 hk) ((hP.live hko').1 hk') hne hc hc'
  · by_cases hko : k = o
    · subst hko
      rw [upd_same] at hc
      exact ⟨(hq c hc).1, (hq c hc).2.1⟩
    · rw [upd_other _ _ hko] at hc
      obtain ⟨h1, h2⟩ := h.own k c ((hP.live hko).1 hk) hc
      exact ⟨h1, Nat.lt_of_lt_of_le h2 hsz⟩

theorem Good.place {E : Ent} {st : St} {a : Act} (g : Good E st a w S μ) {H' : List AObj} {o : Nat} {x : AObj} (hP : Placed st.H H' o x) (q : OI)
    (hno : q = μ o ∨ E.H.length ≤ o ∧ mentL o st.fr = false ∧ ∀ k cs, k ≠ o → st.H[k]? = some (.var cs) → mentL o cs = false)
    {w' : World} (hos : w'.os = w.os) (htape : w'.tape = w.tape) (hout : w'.output = w.output) (hsz : w.heap.size ≤ w'.heap.size) (hw : ∀ b, b < w.heap.size → q.b ≠ some b → w'.heap[b]? = w.heap[b]?)
    (hq : ∀ b, q.b = some b → ¬ S b ∧ b < w'.heap.size ∧ (∀ k, k ≠ o → LiveAt st.H k → (μ k).b ≠ some b) ∧ (E.w.heap.size ≤ b ∨ Blk E.μ E.H b))
    (hx : ObjRel S (upd μ o q) w' o x) (hids : ∀ cs, x = .var cs → ∀ k, H'.length ≤ k → mentL k cs = false) : Good E { st with H := H' } a w' S (upd μ o q) where
  defers := g.defers
  fr := by
    refine RelL_mono (fun _ h => h) (fun b hb => hw b (g.hok.inS b hb) fun e => (hq b e).1 hb) _ _ (fun k hk => ?_) g.fr
    by_cases hko : k = o
    · subst hko
      rw [upd_same]
      rcases hno with he | ⟨_, he, _⟩
      · exact he
      · rw [he] at hk; cases hk
    · exact upd_other _ _ hko
  ids k hk := g.ids k (Nat.le_trans hP.len hk)
  hok := g.hok.place hP q (hno.imp id fun h => h.2.2) hsz hw (fun b hb => ⟨(hq b hb).1, (hq b hb).2.1, (hq b hb).2.2.1⟩) hx hids
  sub := g.sub
  new := g.new
  mu k hk := by
    by_cases hko : k = o
    · subst hko
      rw [upd_same]
      rcases hno with he | ⟨he, _⟩
      · rw [he]; exact g.mu k hk
      · omega
    · rw [upd_other _ _ hko]; exact g.mu k hk
  len := Nat.le_trans g.len hP.len
  kept := ⟨hos.trans g.kept.os, htape.trans g.kept.tape, hout.trans g.kept.output, Nat.le_trans g.kept.size hsz, fun b hb hn => by
    rw [hw b (Nat.lt_of_lt_of_le hb g.kept.size) fun e => ?_]
    · exact g.kept.block b hb hn
    · rcases (hq b e).2.2.2 with h | h
      · omega
      · exact hn h⟩
  mine k b hk hb := by
    by_cases hko : k = o
    · subst hko
      rw [upd_same] at hb
      exact (hq b hb).2.2.2
    · rw [upd_other _ _ hko] at hb
      exact g.mine k b ((hP.live hko).1 hk) hb

/-- A new block of the call's own, under a new name. -/
theorem Good.made {E : Ent} {st : St} {a : Act} (g : Good E st a w S μ) (c : Array Value) (T : TypeId) (d : Nat) (x : AObj) (q : OI) (hq : q.b = some w.heap.size)
    (hx : ObjRel S (upd μ st.H.length q) { w with heap := w.heap.push (.cells c T), drawn := d } st.H.length x) (hids : ∀ cs, x = .var cs → ∀ k, st.H.length ≤ k → mentL k cs = false) :
    Good E { st with H := st.H ++ [x] } a { w with heap := w.heap.push (.cells c T), drawn := d } S (upd μ st.H.length q) := by
  have hext := Ext.push w (.cells c T) d
  refine g.place (placed_append st.H x) q (.inr ⟨g.len, g.ids _ (Nat.le_refl _), fun k cs _ hk => g.hok.ids k cs hk _ (Nat.le_refl _)⟩) rfl rfl rfl hext.size (fun b hb _ => hext.block b hb)
    (fun b hb => ?_) hx (fun cs hcs k hk => hids cs hcs k (by simp at hk; omega))
  rw [hq] at hb; cases hb
  refine ⟨fun h => by have := g.hok.inS _ h; omega, by simp, fun k _ hl hb => by have := (g.hok.own k _ hl hb).2; omega, .inl g.kept.size⟩

/-- A name is given up. -/
theorem Good.forget {E : Ent} {st : St} {a : Act} (g : Good E st a w S μ) (o : Nat) : Good E { fr := st.fr.map (kill o), H := (st.H.map (killObj o)).set o .dead } a w S μ := by
  have killRel : ∀ (v : AV) (y : Value), Rel S μ w v y → Rel S μ w (kill o v) y := fun v y h => by
    unfold kill
    cases Cg.ment o v
    · exact h
    · trivial
  have killL : ∀ (cs : List AV) (ys : List Value), RelL S μ w cs ys → RelL S μ w (cs.map (kill o)) ys := by
    intro cs
    induction cs with
    | nil => intro ys h; exact h
    | cons a cs ih => intro ys h; obtain ⟨y, r, rfl, h1, h2⟩ := h; exact ⟨y, r, rfl, killRel a y h1, ih r h2⟩
  have killM : ∀ (k : Nat) (cs : List AV), mentL k cs = false → mentL k (cs.map (kill o)) = false := fun k cs h => mentL_of fun a ha => by
    obtain ⟨a0, ha0, rfl⟩ := List.mem_map.1 ha
    unfold kill
    cases Cg.ment o a0
    · exact mentL_mem h ha0
    · rfl
  have entry : ∀ k y, ((st.H.map (killObj o)).set o .dead)[k]? = some y → y = .dead ∨ ∃ y0, k ≠ o ∧ st.H[k]? = some y0 ∧ y = killObj o y0 := fun k y hk => by
    rw [List.getElem?_set] at hk
    split at hk
    · split at hk
      · cases hk; exact .inl rfl
      · cases hk
    · rename_i hne
      rw [List.getElem?_map] at hk
      cases hk' : st.H[k]? with
      | none => rw [hk'] at hk; simp at hk
      | some y0 => rw [hk'] at hk; simp at hk; exact .inr ⟨y0, Ne.symm hne, rfl, hk.symm⟩
  have live : ∀ k, LiveAt ((st.H.map (killObj o)).set o .dead) k → LiveAt st.H k := fun k hk => by
    rcases LiveAt_iff.1 hk with ⟨cs, h1⟩ | ⟨n, e, c, h1⟩
    · rcases entry k _ h1 with h2 | ⟨y0, _, h2, h3⟩
      · cases h2
      · cases y0 with
        | var cs0 => exact LiveAt_iff.2 (.inl ⟨cs0, h2⟩)
        | _ => simp [killObj] at h3
    · rcases entry k _ h1 with h2 | ⟨y0, _, h2, h3⟩
      · cases h2
      · cases y0 with
        | arr n e c => exact LiveAt_iff.2 (.inr ⟨n, e, c, h2⟩)
        | _ => simp [killObj] at h3
  exact {
    defers := g.defers
    fr := killL _ _ g.fr
    ids := fun k hk => killM k _ (g.ids k (by simpa using hk))
    hok := {
      obj := fun k y hk => by
        rcases entry k y hk with rfl | ⟨y0, _, h1, rfl⟩
        · trivial
        · have := g.hok.obj k y0 h1
          cases y0 with
          | var cs => obtain ⟨b, c, T, h2, h3, h4, h5⟩ := this; exact ⟨b, c, T, h2, h3, killL _ _ h4, h5⟩
          | _ => exact this
      ids := fun k cs hk j hj => by
        rcases entry k _ hk with h1 | ⟨y0, _, h1, h2⟩
        · cases h1
        · cases y0 with
          | var cs0 => simp only [killObj, AObj.var.injEq] at h2; subst h2; exact killM j _ (g.hok.ids k cs0 h1 j (by simpa using hj))
          | _ => simp [killObj] at h2
      sep := fun k k' b hk hk' => g.hok.sep k k' b (live k hk) (live k' hk')
      own := fun k b hk => g.hok.own k b (live k hk)
      inS := g.hok.inS }
    sub := g.sub
    new := g.new
    mu := g.mu
    len := by simpa using g.len
    kept := g.kept
    mine := fun k b hk => g.mine k b (live k hk) }

theorem kill_ment (o : Nat) (v : AV) : ment o (kill o v) = false := by
  unfold kill
  cases h : ment o v
  · exact h
  · rfl

theorem kill_mentL (o : Nat) (cs : List AV) : mentL o (cs.map (kill o)) = false := mentL_of fun a ha => by obtain ⟨a0, _, rfl⟩ := List.mem_map.1 ha; exact kill_ment o a0

end
end Cg
