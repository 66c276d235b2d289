/-
  The machine's states and the model's: what a state says of a frame and a world; how it is kept. No condition.
-/
import Derived.Test.YtdlmjdnjenhnfaaRel
namespace Cg
open Go

def LiveAt (H : List AObj) (o : Nat) : Prop := match H[o]? with
  | some (.var _) => True
  | some (.arr _ _ _) => True
  | _ => False

def Blk (μ : Nat → OI) (H : List AObj) (b : Nat) : Prop := ∃ o, LiveAt H o ∧ (μ o).b = some b

def ObjRel (S : Nat → Prop) (μ : Nat → OI) (w : World) (o : Nat) : AObj → Prop
  | .dead => True
  | .var cs => ∃ b c T, (μ o).b = some b ∧ w.heap[b]? = some (.cells c T (0, 0)) ∧ RelL S μ w cs c.toList ∧ ∀ y ∈ c.toList, isOne y = true
  | .arr n esz cell => (μ o).esz = esz ∧ match (μ o).b with
    | none => n = 0
    | some b => n ≤ (μ o).cap ∧ ∃ c T, w.heap[b]? = some (.cells c T (0, 0)) ∧ (μ o).base + (μ o).cap * esz ≤ c.size ∧
        ∀ i, i < n → ∀ j, j < esz → ∃ x, c[(μ o).base + i * esz + j]? = some x ∧ RelI S w (cell i j) x
  | .fro n esz cell => (μ o).esz = esz ∧ match (μ o).b with
    | none => n = 0
    | some b => n ≤ (μ o).cap ∧ RowI S w b (μ o).base n esz cell

structure HOK (S : Nat → Prop) (μ : Nat → OI) (w : World) (H : List AObj) : Prop where
  obj : ∀ (o : Nat) (x : AObj), H[o]? = some x → ObjRel S μ w o x
  ids : ∀ (o : Nat) (cs : List AV), H[o]? = some (AObj.var cs) → ∀ k, H.length ≤ k → mentL k cs = false
  sep : ∀ o o' b, LiveAt H o → LiveAt H o' → o ≠ o' → (μ o).b = some b → (μ o').b ≠ some b
  own : ∀ o b, LiveAt H o → (μ o).b = some b → ¬ S b ∧ b < w.heap.size
  inS : ∀ b, S b → b < w.heap.size

/-- Beyond the blocks of the owned objects nothing that was there has turned. -/
structure Kept (μ : Nat → OI) (H : List AObj) (w w' : World) : Prop where
  os : w'.os = w.os
  tape : w'.tape = w.tape
  output : w'.output = w.output
  size : w.heap.size ≤ w'.heap.size
  block : ∀ b, b < w.heap.size → ¬ Blk μ H b → w'.heap[b]? = w.heap[b]?

/-- How a call began. -/
structure Ent where
  S : Nat → Prop
  μ : Nat → OI
  H : List AObj
  w : World

structure Good (E : Ent) (st : St) (a : Act) (w : World) (S : Nat → Prop) (μ : Nat → OI) : Prop where
  defers : a.defers = []
  fr : RelL S μ w st.fr a.tmps.toList
  ids : ∀ k, st.H.length ≤ k → mentL k st.fr = false
  hok : HOK S μ w st.H
  sub : ∀ b, E.S b → S b
  new : ∀ b, S b → E.S b ∨ E.w.heap.size ≤ b ∨ Blk E.μ E.H b
  mu : ∀ o, o < E.H.length → μ o = E.μ o
  len : E.H.length ≤ st.H.length
  kept : Kept E.μ E.H E.w w
  mine : ∀ o b, LiveAt st.H o → (μ o).b = some b → E.w.heap.size ≤ b ∨ Blk E.μ E.H b

/-- Nothing that was there has turned. -/
structure Ext (w w' : World) : Prop where
  os : w'.os = w.os
  tape : w'.tape = w.tape
  output : w'.output = w.output
  size : w.heap.size ≤ w'.heap.size
  block : ∀ b, b < w.heap.size → w'.heap[b]? = w.heap[b]?

theorem Ext.refl (w : World) : Ext w w := ⟨rfl, rfl, rfl, Nat.le_refl _, fun _ _ => rfl⟩
theorem Ext.trans {a b c : World} (h : Ext a b) (k : Ext b c) : Ext a c :=
  ⟨k.os.trans h.os, k.tape.trans h.tape, k.output.trans h.output, Nat.le_trans h.size k.size, fun i hi => (k.block i (Nat.lt_of_lt_of_le hi h.size)).trans (h.block i hi)⟩

theorem Ext.push (w : World) (o : Obj) (d : Nat) : Ext w { w with heap := w.heap.push o, drawn := d } :=
  ⟨rfl, rfl, rfl, by simp, fun b hb => by show (w.heap.push o)[b]? = _; rw [Array.getElem?_push, if_neg (by omega)]⟩

theorem Ext.drawn (w : World) (d : Nat) : Ext w { w with drawn := d } := ⟨rfl, rfl, rfl, Nat.le_refl _, fun _ _ => rfl⟩

theorem LiveAt_iff {H : List AObj} {o : Nat} : LiveAt H o ↔ (∃ cs, H[o]? = some (AObj.var cs)) ∨ ∃ n e c, H[o]? = some (AObj.arr n e c) := by
  unfold LiveAt
  constructor
  · intro h
    split at h
    · rename_i cs hc; exact .inl ⟨cs, hc⟩
    · rename_i n e c hc; exact .inr ⟨n, e, c, hc⟩
    · exact h.elim
  · rintro (⟨cs, h⟩ | ⟨n, e, c, h⟩) <;> rw [h] <;> trivial

theorem LiveAt.lt {H : List AObj} {o : Nat} (h : LiveAt H o) : o < H.length := by
  rcases LiveAt_iff.1 h with ⟨_, h⟩ | ⟨_, _, _, h⟩ <;> exact (List.getElem?_eq_some_iff.1 h).1

theorem Kept.refl (μ : Nat → OI) (H : List AObj) (w : World) : Kept μ H w w := ⟨rfl, rfl, rfl, Nat.le_refl _, fun _ _ _ => rfl⟩

theorem Kept.ext {μ : Nat → OI} {H : List AObj} {w w' w'' : World} (h : Kept μ H w w') (e : Ext w' w'') : Kept μ H w w'' :=
  ⟨e.os.trans h.os, e.tape.trans h.tape, e.output.trans h.output, Nat.le_trans h.size e.size, fun b hb hn => (e.block b (Nat.lt_of_lt_of_le hb h.size)).trans (h.block b hb hn)⟩

/-- An object's reading in a later world, what it names standing for the same. -/
theorem ObjRel_mono {S S' : Nat → Prop} {μ μ' : Nat → OI} {w w' : World} {o : Nat} (hS : ∀ b, S b → S' b) (hw : ∀ b, S b → w'.heap[b]? = w.heap[b]?) (hμ : μ' o = μ o) :
    ∀ {x : AObj}, (∀ cs, x = .var cs → ∀ k, mentL k cs = true → μ' k = μ k) → (LiveAt [x] 0 → ∀ b, (μ o).b = some b → w'.heap[b]? = w.heap[b]?) → ObjRel S μ w o x → ObjRel S' μ' w' o x
  | .dead, _, _, _ => trivial
  | .var cs, hm, hb, h => by
    obtain ⟨b, c, T, h1, h2, h3, h4⟩ := h
    exact ⟨b, c, T, by rw [hμ]; exact h1, by rw [hb trivial b h1]; exact h2, RelL_mono hS hw _ _ (hm cs rfl) h3, h4⟩
  | .arr n esz cell, _, hb, h => by
    obtain ⟨h1, h2⟩ := h
    refine ⟨by rw [hμ]; exact h1, ?_⟩
    rw [hμ]
    cases hq : (μ o).b with
    | none => rw [hq] at h2; exact h2
    | some b =>
      rw [hq] at h2
      obtain ⟨h3, c, T, h4, h5, h6⟩ := h2
      refine ⟨h3, c, T, by rw [hb trivial b hq]; exact h4, h5, fun i hi j hj => ?_⟩
      obtain ⟨x, h7, h8⟩ := h6 i hi j hj
      exact ⟨x, h7, RelI_mono hS hw _ _ h8⟩
  | .fro n esz cell, _, _, h => by
    obtain ⟨h1, h2⟩ := h
    refine ⟨by rw [hμ]; exact h1, ?_⟩
    rw [hμ]
    cases hq : (μ o).b with
    | none => rw [hq] at h2; exact h2
    | some b => rw [hq] at h2; exact ⟨h2.1, RowI_mono hS hw h2.2⟩

theorem LiveAt_one {H : List AObj} {o : Nat} {x : AObj} (h : H[o]? = some x) : LiveAt [x] 0 ↔ LiveAt H o := by
  unfold LiveAt; rw [h]; simp

theorem HOK.ext {S S' : Nat → Prop} {μ : Nat → OI} {w w' : World} {H : List AObj} (h : HOK S μ w H) (e : Ext w w') (hS : ∀ b, S b → S' b) (hS' : ∀ b, S' b → S b ∨ w.heap.size ≤ b)
    (hin : ∀ b, S' b → b < w'.heap.size) : HOK S' μ w' H where
  obj o x ho := ObjRel_mono hS (fun b hb => e.block b (h.inS b hb)) rfl (fun _ _ _ _ => rfl) (fun hl b hb => e.block b (h.own o b ((LiveAt_one ho).1 hl) hb).2) (h.obj o x ho)
  ids := h.ids
  sep := h.sep
  own o b hl hb := by
    obtain ⟨h1, h2⟩ := h.own o b hl hb
    exact ⟨fun hs => (hS' b hs).elim h1 (by omega), Nat.lt_of_lt_of_le h2 e.size⟩
  inS := hin

theorem Good.ext {E : Ent} {st : St} {a : Act} {w w' : World} {S S' : Nat → Prop} {μ : Nat → OI} (g : Good E st a w S μ) (e : Ext w w') (hS : ∀ b, S b → S' b) (hS' : ∀ b, S' b → S b ∨ w.heap.size ≤ b)
    (hin : ∀ b, S' b → b < w'.heap.size) : Good E st a w' S' μ where
  defers := g.defers
  fr := RelL_mono hS (fun b hb => e.block b (g.hok.inS b hb)) _ _ (fun _ _ => rfl) g.fr
  ids := g.ids
  hok := g.hok.ext e hS hS' hin
  sub b hb := hS b (g.sub b hb)
  new b hb := by
    rcases hS' b hb with h | h
    · exact g.new b h
    · exact .inr (.inl (Nat.le_trans g.kept.size h))
  mu := g.mu
  len := g.len
  kept := g.kept.ext e
  mine := g.mine

theorem Good.ext_same {E : Ent} {st : St} {a : Act} {w w' : World} {S : Nat → Prop} {μ : Nat → OI} (g : Good E st a w S μ) (e : Ext w w') : Good E st a w' S μ :=
  g.ext e (fun _ h => h) (fun _ h => .inl h) (fun b hb => Nat.lt_of_lt_of_le (g.hok.inS b hb) e.size)

/-- A value is laid into a slot. -/
theorem Good.put {E : Ent} {st : St} {a : Act} {w : World} {S : Nat → Prop} {μ : Nat → OI} (g : Good E st a w S μ) (d : Option Tmp) {v : AV} {y : Value} (h : Rel S μ w v y)
    (hi : ∀ k, st.H.length ≤ k → ment k v = false) : Good E (st.put d v) (a.put d y) w S μ := by
  cases d with
  | none => exact g
  | some d =>
    exact { defers := g.defers, fr := by show RelL S μ w (st.fr.set d v) (a.tmps.setIfInBounds d y).toList; rw [Array.toList_setIfInBounds]; exact RelL_set g.fr d h,
            ids := fun k hk => mentL_set (g.ids k hk) d (hi k hk), hok := g.hok, sub := g.sub, new := g.new, mu := g.mu, len := g.len, kept := g.kept, mine := g.mine }

theorem Rel_ofCell (S : Nat → Prop) (μ : Nat → OI) (w : World) (x : Value) : Rel S μ w (ofCell x) x := by
  unfold ofCell
  split
  · exact ⟨none, rfl, .inl rfl⟩
  · rfl

theorem Rel_ofConst (S : Nat → Prop) (μ : Nat → OI) (w : World) (x : Value) : Rel S μ w (ofConst x) x := by
  unfold ofConst
  split
  · exact ⟨none, rfl, .inl rfl⟩
  · rename_i cs
    refine ⟨cs.toList, by simp, ?_⟩
    have := RelL_map (S := S) (μ := μ) (w := w) cs.toList ofCell id (fun x _ => Rel_ofCell S μ w x)
    simpa using this
  · rfl

theorem Good.ev {E : Ent} {st : St} {a : Act} {w : World} {S : Nat → Prop} {μ : Nat → OI} (g : Good E st a w S μ) (x : Operand) : Rel S μ w (ev st.fr x) (a.eval x) := by
  cases x with
  | tmp t =>
    simp only [Cg.ev, List.getD_eq_getElem?_getD]
    cases ht : st.fr[t]? with
    | none => trivial
    | some v =>
      obtain ⟨y, hy, hr⟩ := RelL_get g.fr ht
      have : a.eval (.tmp t) = y := by
        show a.tmps.getD t undef = y
        rw [Array.getD_eq_getD_getElem?, ← Array.getElem?_toList, hy]
        rfl
      rw [this]
      exact hr
  | const x => exact Rel_ofConst S μ w x
  | global n => trivial
  | func f => exact ⟨[], rfl, rfl⟩

theorem Good.ment {E : Ent} {st : St} {a : Act} {w : World} {S : Nat → Prop} {μ : Nat → OI} (g : Good E st a w S μ) (x : Operand) (k : Nat) (hk : st.H.length ≤ k) : ment k (Cg.ev st.fr x) = false :=
  ment_ev (g.ids k hk) x

theorem Rel_cells {S : Nat → Prop} {μ : Nat → OI} {w : World} {v : AV} {y : Value} {cs : List AV} (hc : cellsA v = some cs) (h : Rel S μ w v y) : RelL S μ w cs y.cells.toList := by
  cases v with
  | any => simp [cellsA] at hc
  | tup l => simp [cellsA] at hc
  | v x =>
    simp only [cellsA] at hc
    cases hx : isOne x <;> simp [hx] at hc
    subst hc
    have : y = x := h
    subst this
    have hy : y.cells.toList = [y] := by cases y <;> first | rfl | simp [isOne] at hx
    rw [hy]
    exact ⟨y, [], rfl, rfl, rfl⟩
  | agg l => simp only [cellsA, Option.some.injEq] at hc; subst hc; obtain ⟨vs, rfl, h⟩ := h; simpa [Value.cells] using h
  | sl n e c => 
    simp only [cellsA, Option.some.injEq] at hc; subst hc
    have h0 := h
    obtain ⟨a, cap, rfl, _⟩ := h
    exact ⟨_, [], rfl, h0, rfl⟩
  | lit n e c =>
    simp only [cellsA, Option.some.injEq] at hc; subst hc
    have h0 := h
    obtain ⟨a, rfl, _⟩ := h
    exact ⟨_, [], rfl, h0, rfl⟩
  | el n e c i off =>
    simp only [cellsA, Option.some.injEq] at hc; subst hc
    have h0 := h
    obtain ⟨b, o, rfl, _⟩ := h
    exact ⟨_, [], rfl, h0, rfl⟩
  | ptr o off =>
    simp only [cellsA, Option.some.injEq] at hc; subst hc
    have h0 := h
    obtain ⟨b, _, rfl⟩ := h
    exact ⟨_, [], rfl, h0, rfl⟩
  | oel o i off =>
    simp only [cellsA, Option.some.injEq] at hc; subst hc
    have h0 := h
    obtain ⟨b, _, _, rfl⟩ := h
    exact ⟨_, [], rfl, h0, rfl⟩
  | osl o lo n =>
    simp only [cellsA, Option.some.injEq] at hc; subst hc
    have h0 := h
    unfold Rel at h
    split at h
    · obtain ⟨_, _, a, rfl⟩ := h; exact ⟨_, [], rfl, h0, rfl⟩
    · obtain ⟨_, a, rfl, _⟩ := h; exact ⟨_, [], rfl, h0, rfl⟩
  | fn f l =>
    simp only [cellsA, Option.some.injEq] at hc; subst hc
    have h0 := h
    obtain ⟨vs, rfl, _⟩ := h
    exact ⟨_, [], rfl, h0, rfl⟩

end Cg
