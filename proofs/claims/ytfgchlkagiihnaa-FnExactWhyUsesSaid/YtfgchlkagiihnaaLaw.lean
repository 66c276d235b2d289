/-
  The abstract machine, part Law. No condition.
-/
import Derived.Test.YtfgchlkagiihnaaTool
import Derived.ChangeArms
import Derived.ChangeSame
import Derived.Carry
import Derived.OpenShut
import Derived.Deep.Slices
import Derived.WalkKit
import Derived.ProofKit
set_option linter.unusedVariables false
set_option linter.unusedSimpArgs false
/-
  From an argument's reading as data to the abstract machine's values; and the frame behind a call. No condition.
-/
namespace Cg
open Go

section
variable {P : Program} {w : World} {S : Nat → Prop} {H : Type} {enc : TypeId × Value → H}

/-- Cells that read as cells of memory that stays as it is. -/
def RelIL (S : Nat → Prop) (w : World) : List AV → List Value → Prop
  | [], ys => ys = []
  | a :: r, ys => ∃ y ys', ys = y :: ys' ∧ RelI S w a y ∧ RelIL S w r ys'

theorem RelIL_length : ∀ {as : List AV} {ys : List Value}, RelIL S w as ys → ys.length = as.length
  | [], _, h => by rw [show _ = _ from h]; rfl
  | a :: r, _, ⟨y, ys', e, _, h⟩ => by rw [e]; simp [RelIL_length h]

theorem RelIL_get : ∀ {as : List AV} {ys : List Value}, RelIL S w as ys → ∀ j, j < as.length → ∃ y, ys[j]? = some y ∧ RelI S w (as.getD j .any) y
  | a :: r, _, ⟨y, ys', e, h1, h⟩, 0, _ => ⟨y, by rw [e]; rfl, h1⟩
  | a :: r, _, ⟨y, ys', e, h1, h⟩, j + 1, hj => by
    obtain ⟨z, h2, h3⟩ := RelIL_get h j (by simpa using hj)
    exact ⟨z, by rw [e]; simpa using h2, by simpa using h3⟩

theorem RelIL_append : ∀ {as bs : List AV} {xs ys : List Value}, RelIL S w as xs → RelIL S w bs ys → RelIL S w (as ++ bs) (xs ++ ys)
  | [], bs, xs, ys, h, k => by rw [show xs = [] from h]; exact k
  | a :: r, bs, _, ys, ⟨y, ys', e, h1, h⟩, k => by rw [e]; exact ⟨y, ys' ++ ys, rfl, h1, RelIL_append h k⟩

/-- What reads as data of a type is a thing of a plain type, written out in cells. -/
def Opens (P : Program) (enc : TypeId × Value → H) (w : World) (S : Nat → Prop) (n : Nat) (t : TypeId) {α : Type} (ok : α → Prop) (c : α → List AV) : Prop :=
  ∀ cs x, DataW.trod enc P w 0 (fun _ => true) true n t cs = some x → ∃ a, ok a ∧ RelIL S w (c a) cs

theorem Opens.zero {t : TypeId} {α : Type} {ok : α → Prop} {c : α → List AV} : Opens P enc w S 0 t ok c := fun cs x h => by simp [DataW.trod] at h

theorem Opens.int {n : Nat} {t : TypeId} {k : IntKind} (ht : P.underlying t = some (.int k)) : Opens P enc w S n t (fun x : Int => (Lit.int k x).wf = true) (fun x => [.v (.int k x)]) := fun cs x h => by
  obtain ⟨m, rfl, _, hw⟩ := DataW.trod_int ht h
  exact ⟨m, hw, _, _, rfl, ⟨rfl, rfl⟩, rfl⟩

theorem Opens.bool {n : Nat} {t : TypeId} (ht : P.underlying t = some .bool) : Opens P enc w S n t (fun _ : Bool => True) (fun x => [.v (.bool x)]) := fun cs x h => by
  obtain ⟨b, rfl, _⟩ := DataW.trod_bool ht h
  exact ⟨b, trivial, _, _, rfl, ⟨rfl, rfl⟩, rfl⟩

theorem Opens.string {n : Nat} {t : TypeId} (ht : P.underlying t = some .string) : Opens P enc w S n t (fun s : ByteArray => s.size ≤ maxLen) (fun x => [.v (.string x)]) := fun cs x h => by
  obtain ⟨s, rfl, _, hs⟩ := DataW.trod_string ht h
  exact ⟨s, hs, _, _, rfl, ⟨rfl, rfl⟩, rfl⟩

/-- A list's cells behind a slice. -/
def slOf {α : Type} (esz : Nat) (c : α → List AV) (l : List α) : AV := .sl l.length esz fun i j => match l[i]? with
  | some a => (c a).getD j .any
  | none => .any

theorem Opens.slice {n : Nat} {t e : TypeId} {α : Type} {ok : α → Prop} {c : α → List AV} (ht : P.underlying t = some (.slice e)) (hS : ∀ b, b < w.heap.size → S b) (he : Opens P enc w S n e ok c) (hc : 0 < P.cellsOf e) :
    Opens P enc w S (n + 1) t (fun l : List α => l.length ≤ maxLen ∧ ∀ x ∈ l, ok x) (fun l => [slOf (P.cellsOf e) c l]) := fun cs x h => by
  have nilcase : cs = [.slice none 0 0] → ∃ a : List α, (a.length ≤ maxLen ∧ ∀ x ∈ a, ok x) ∧ RelIL S w [slOf (P.cellsOf e) c a] cs := fun h0 =>
    ⟨[], ⟨Nat.zero_le _, fun _ h => by cases h⟩, _, _, h0, ⟨none, 0, rfl, Nat.le_refl _, .inl rfl⟩, rfl⟩
  rcases DataW.trod_slice ht h with h0 | ⟨a, len, cap, elems, rest, m, hn, rfl, rfl, hb, hl, hm, hlen, hel, hsp, hns⟩
  · exact nilcase h0.1
  cases hn
  have each : ∀ i, i < len → ∃ x : α, ok x ∧ ∃ cs', w.cells? 0 (a.add (i * P.cellsOf e)) (P.cellsOf e) = some cs' ∧ RelIL S w (c x) cs' := fun i hi => by
    have h1 := hel i hi
    rw [List.getElem?_eq_getElem (by omega)] at h1
    cases hcs : w.cells? 0 (a.add (i * P.cellsOf e)) (P.cellsOf e) with
    | none => rw [hcs] at h1; cases h1
    | some cs' =>
      rw [hcs] at h1
      obtain ⟨x, hx, hr⟩ := he cs' _ h1
      exact ⟨x, hx, cs', rfl, hr⟩
  let l : List α := List.ofFn fun i : Fin len => Classical.choose (each i.1 i.2)
  have hl' : l.length = len := by simp [l]
  have hspec : ∀ i (hi : i < len), ∃ x, l[i]? = some x ∧ ok x ∧ ∃ cs', w.cells? 0 (a.add (i * P.cellsOf e)) (P.cellsOf e) = some cs' ∧ RelIL S w (c x) cs' := fun i hi =>
    ⟨Classical.choose (each i hi), by simp [l, hi], Classical.choose_spec (each i hi)⟩
  refine ⟨l, ⟨by omega, fun x hx => ?_⟩, _, _, rfl, ?_, rfl⟩
  · obtain ⟨i, hi, rfl⟩ := List.getElem_of_mem hx
    obtain ⟨x, h1, h2, _⟩ := hspec i (by omega)
    rw [List.getElem?_eq_getElem hi] at h1
    cases h1
    exact h2
  · refine ⟨some a, cap, by rw [hl'], by omega, ?_⟩
    by_cases h0 : l.length = 0
    · exact .inl h0
    right
    obtain ⟨b, off, spot⟩ := a
    have hsp' : spot = none := by
      obtain ⟨x, h1, _, cs', h2, h3⟩ := hspec 0 (by omega)
      obtain ⟨_, h4, h5⟩ := World.cells?_some h2
      have h6 := h5 0 hc
      rw [List.getElem?_eq_getElem (by omega)] at h6
      have h7 : w.cell? ⟨b, off, spot⟩ = some cs'[0] := by simpa [Addr.add] using h6
      simp only [World.cell?] at h7
      split at h7
      · split at h7
        · cases h7
        · rename_i hh; simpa using hh
      · cases h7
    subst hsp'
    have cell : ∀ i, i < len → ∀ j, j < P.cellsOf e → ∃ x, l[i]? = some x ∧ ∃ y, w.cell? ⟨b, off + i * P.cellsOf e + j, none⟩ = some y ∧ RelI S w ((c x).getD j .any) y ∧ j < (c x).length := fun i hi j hj => by
      obtain ⟨x, h1, _, cs', h2, h3⟩ := hspec i hi
      obtain ⟨_, h4, h5⟩ := World.cells?_some h2
      have hjl : j < (c x).length := by rw [← RelIL_length h3]; omega
      obtain ⟨y, h6, h7⟩ := RelIL_get h3 j hjl
      refine ⟨x, h1, y, ?_, h7, hjl⟩
      have := h5 j hj
      rw [h6, Go.WideShapes.add_plain, Go.WideShapes.add_plain] at this
      exact this
    obtain ⟨x0, _, y0, h6, _⟩ := cell 0 (by omega) 0 hc
    refine ⟨b, off, rfl, ?_⟩
    have hcell : ∀ o y, w.cell? ⟨b, o, none⟩ = some y → ∃ c T fr, w.heap[b]? = some (.cells c T fr) ∧ c[o]? = some y := fun o y h => by
      simp only [World.cell?] at h
      split at h
      · rename_i c T fr hh
        exact ⟨c, T, fr, hh, by simpa using h⟩
      · cases h
    obtain ⟨C, T, fr, hB, _⟩ := hcell _ _ h6
    refine ⟨hS b (by
      have := (Array.getElem?_eq_some_iff.1 hB).1
      exact this), C, T, fr, hB, fun i hi j hj => ?_⟩
    obtain ⟨x, h1, y, h2, h3, _⟩ := cell i (by omega) j hj
    obtain ⟨C', T', fr', hB', hy⟩ := hcell _ _ h2
    rw [hB] at hB'
    cases hB'
    refine ⟨y, hy, ?_⟩
    simp only [h1]
    exact h3

theorem Opens.mono {n : Nat} {t : TypeId} {α β : Type} {ok : α → Prop} {ok' : β → Prop} {c : α → List AV} {c' : β → List AV} (h : Opens P enc w S n t ok c) (f : α → β) (h1 : ∀ a, ok a → ok' (f a)) (h2 : ∀ a, ok a → c' (f a) = c a) : Opens P enc w S n t ok' c' := fun cs x hx => by
  obtain ⟨a, ha, hr⟩ := h cs x hx
  exact ⟨f a, h1 a ha, by rw [h2 a ha]; exact hr⟩

theorem Opens.weaken {n : Nat} {t : TypeId} {α : Type} {ok : α → Prop} {c c' : α → List AV} (h : Opens P enc w S n t ok c) (h2 : ∀ a y, ok a → RelIL S w (c a) y → RelIL S w (c' a) y) : Opens P enc w S n t ok c' := fun cs x hx => by
  obtain ⟨a, ha, hr⟩ := h cs x hx
  exact ⟨a, ha, h2 a cs ha hr⟩

theorem RelI_sl_congr {n esz : Nat} {c c' : Nat → Nat → AV} {y : Value} (hc : ∀ i, i < n → ∀ j, j < esz → c i j = c' i j) (h : RelI S w (.sl n esz c) y) : RelI S w (.sl n esz c') y := by
  obtain ⟨a, cap, h1, h2, h3⟩ := h
  refine ⟨a, cap, h1, h2, h3.imp id fun ⟨b, off, h4, h5, C, T, fr, h6, h7⟩ => ⟨b, off, h4, h5, C, T, fr, h6, fun i hi j hj => ?_⟩⟩
  rw [← hc i hi j hj]
  exact h7 i hi j hj

/-- A value of one cell that was read. -/
theorem Opens.value {t : TypeId} {α : Type} {ok : α → Prop} {c : α → AV} (h : ∀ n, Opens P enc w S n t ok (fun a => [c a])) {v : Value} {d : DataW H} {ps : List MemPlace} (hv : DataW.Trod enc P w 0 (fun _ => true) true t v d ps) (h1 : v.cells.toList.length = 1 → v.cells = #[v]) :
    ∃ a, ok a ∧ RelI S w (c a) v := by
  obtain ⟨n, hn⟩ := hv
  obtain ⟨a, ha, y, r, h2, h3, h4⟩ := h n _ _ hn
  rw [show r = [] from h4] at h2
  rw [h1 (by rw [h2]; rfl)] at h2
  simp only [List.cons.injEq, and_true] at h2
  subst h2
  exact ⟨a, ha, h3⟩

/-- The same with whatever fuel. -/
def OpensA (P : Program) (enc : TypeId × Value → H) (w : World) (S : Nat → Prop) (t : TypeId) {α : Type} (ok : α → Prop) (c : α → List AV) : Prop := ∀ n, Opens P enc w S n t ok c

theorem OpensA.int {t : TypeId} {k : IntKind} (ht : P.underlying t = some (.int k)) : OpensA P enc w S t (fun x : Int => (Lit.int k x).wf = true) (fun x => [.v (.int k x)]) := fun _ => Opens.int ht
theorem OpensA.bool {t : TypeId} (ht : P.underlying t = some .bool) : OpensA P enc w S t (fun _ : Bool => True) (fun x => [bl x]) := fun _ => Opens.bool ht
theorem OpensA.string {t : TypeId} (ht : P.underlying t = some .string) : OpensA P enc w S t (fun s : ByteArray => s.size ≤ maxLen) (fun x => [st x]) := fun _ => Opens.string ht

theorem OpensA.sl1 {t e : TypeId} {α : Type} {ok : α → Prop} {c : α → AV} (d : α) (ht : P.underlying t = some (.slice e)) (hS : ∀ b, b < w.heap.size → S b) (he : OpensA P enc w S e ok (fun x => [c x])) (hc : P.cellsOf e = 1) :
    OpensA P enc w S t (fun l : List α => l.length ≤ maxLen ∧ ∀ x ∈ l, ok x) (fun l => [.sl l.length 1 fun i _ => c (l.getD i d)])
  | 0 => Opens.zero
  | n + 1 => (Opens.slice ht hS (he n) (by omega)).weaken fun l y _ ⟨z, r, h1, h2, h3⟩ => ⟨z, r, h1, by
      rw [hc] at h2
      refine RelI_sl_congr (fun i hi j hj => ?_) h2
      have : j = 0 := by omega
      subst this
      rw [List.getElem?_eq_getElem hi]
      simp [hi], h3⟩

theorem OpensA.sln {t e : TypeId} {α : Type} {ok : α → Prop} {c : α → List AV} {k : Nat} {f : α → Nat → AV} (d : α) (ht : P.underlying t = some (.slice e)) (hS : ∀ b, b < w.heap.size → S b) (he : OpensA P enc w S e ok c) (hc : P.cellsOf e = k) (hk : 0 < k)
    (hf : ∀ x j, j < k → (c x).getD j .any = f x j) :
    OpensA P enc w S t (fun l : List α => l.length ≤ maxLen ∧ ∀ x ∈ l, ok x) (fun l => [.sl l.length k fun i j => f (l.getD i d) j])
  | 0 => Opens.zero
  | n + 1 => (Opens.slice ht hS (he n) (by omega)).weaken fun l y _ ⟨z, r, h1, h2, h3⟩ => ⟨z, r, h1, by
      rw [hc] at h2
      refine RelI_sl_congr (fun i hi j hj => ?_) h2
      rw [List.getElem?_eq_getElem hi, ← hf _ _ hj]
      simp [hi], h3⟩

theorem OpensA.struct2 {t : TypeId} {f0 f1 : Field} {α β : Type} {ok0 : α → Prop} {ok1 : β → Prop} {c0 : α → List AV} {c1 : β → List AV} (ht : P.underlying t = some (.struct #[f0, f1])) (o0 : f0.offset = 0) (o1 : f1.offset = P.cellsOf f0.type) (ot : P.cellsOf t = P.cellsOf f0.type + P.cellsOf f1.type)
    (h0 : OpensA P enc w S f0.type ok0 c0) (h1 : OpensA P enc w S f1.type ok1 c1) : OpensA P enc w S t (fun x : α × β => ok0 x.1 ∧ ok1 x.2) (fun x => c0 x.1 ++ c1 x.2) := fun n cs x h => by
  obtain ⟨xs, m, _, _, hl, hlen, hf⟩ := DataW.trod_struct ht h
  match xs, hlen with
  | [y0, y1], _ =>
    obtain ⟨a, ha, ra⟩ := h0 _ _ _ (by simpa using hf 0 f0 rfl)
    obtain ⟨b, hb, rb⟩ := h1 _ _ _ (by simpa using hf 1 f1 rfl)
    refine ⟨(a, b), ⟨ha, hb⟩, ?_⟩
    have := RelIL_append ra rb
    rw [o0, o1, List.drop_zero, List.take_of_length_le (l := cs.drop _) (by simp; omega), List.take_append_drop] at this
    exact this

theorem OpensA.struct3 {t : TypeId} {f0 f1 f2 : Field} {α β γ : Type} {ok0 : α → Prop} {ok1 : β → Prop} {ok2 : γ → Prop} {c0 : α → List AV} {c1 : β → List AV} {c2 : γ → List AV} (ht : P.underlying t = some (.struct #[f0, f1, f2])) (o0 : f0.offset = 0) (o1 : f1.offset = P.cellsOf f0.type)
    (o2 : f2.offset = P.cellsOf f0.type + P.cellsOf f1.type) (ot : P.cellsOf t = P.cellsOf f0.type + P.cellsOf f1.type + P.cellsOf f2.type)
    (h0 : OpensA P enc w S f0.type ok0 c0) (h1 : OpensA P enc w S f1.type ok1 c1) (h2 : OpensA P enc w S f2.type ok2 c2) : OpensA P enc w S t (fun x : α × β × γ => ok0 x.1 ∧ ok1 x.2.1 ∧ ok2 x.2.2) (fun x => c0 x.1 ++ c1 x.2.1 ++ c2 x.2.2) := fun n cs x h => by
  obtain ⟨xs, m, _, _, hl, hlen, hf⟩ := DataW.trod_struct ht h
  match xs, hlen with
  | [y0, y1, y2], _ =>
    obtain ⟨a, ha, ra⟩ := h0 _ _ _ (by simpa using hf 0 f0 rfl)
    obtain ⟨b, hb, rb⟩ := h1 _ _ _ (by simpa using hf 1 f1 rfl)
    obtain ⟨c, hc, rc⟩ := h2 _ _ _ (by simpa using hf 2 f2 rfl)
    refine ⟨(a, b, c), ⟨ha, hb, hc⟩, ?_⟩
    have := RelIL_append (RelIL_append ra rb) rc
    rw [o0, o1, o2, List.drop_zero, ← List.drop_drop, List.take_of_length_le (l := (cs.drop _).drop _) (by simp; omega), List.append_assoc (List.take _ _), List.take_append_drop, List.take_append_drop] at this
    exact this

/-- Fields that lie one behind the other from an offset on. -/
def consec (P : Program) : Nat → List Field → Bool
  | _, [] => true
  | off, f :: fs => Nat.beq f.offset off && consec P (off + P.cellsOf f.type) fs
def cellsF (P : Program) : List Field → Nat
  | [] => 0
  | f :: fs => P.cellsOf f.type + cellsF P fs
theorem consec_le : ∀ {fs : List Field} {off : Nat}, consec P off fs = true → ∀ g ∈ fs, off ≤ g.offset
  | [], _, _, g, hg => by cases hg
  | f :: fs, off, h, g, hg => by
    simp only [consec, Bool.and_eq_true] at h
    have h1 := Nat.eq_of_beq_eq_true h.1
    cases List.mem_cons.1 hg with
    | inl e => subst e; omega
    | inr e => have := consec_le h.2 g e; omega

/-- What reads as such fields. -/
def OpensF (P : Program) (enc : TypeId × Value → H) (w : World) (S : Nat → Prop) (n off : Nat) (fs : List Field) {α : Type} (ok : α → Prop) (c : α → List AV) : Prop :=
  consec P off fs = true → ∀ cs : List Value, cs.length = cellsF P fs →
    (∀ f ∈ fs, ∃ x, DataW.trod enc P w 0 (fun _ => true) true n f.type ((cs.drop (f.offset - off)).take (P.cellsOf f.type)) = some x) → ∃ a, ok a ∧ RelIL S w (c a) cs

theorem OpensF.one {n off : Nat} {f : Field} {α : Type} {ok : α → Prop} {c : α → List AV} (h : Opens P enc w S n f.type ok c) : OpensF P enc w S n off [f] ok c := fun hc cs hl hf => by
  simp only [consec, Bool.and_true] at hc
  have h1 := Nat.eq_of_beq_eq_true hc
  simp only [cellsF, Nat.add_zero] at hl
  obtain ⟨x, hx⟩ := hf f (List.mem_singleton.2 rfl)
  rw [h1, Nat.sub_self, List.drop_zero, List.take_of_length_le (by omega)] at hx
  exact h _ _ hx

theorem OpensF.cons {n off : Nat} {f : Field} {fs : List Field} {α β : Type} {ok0 : α → Prop} {ok1 : β → Prop} {c0 : α → List AV} {c1 : β → List AV} (h0 : Opens P enc w S n f.type ok0 c0)
    (h1 : OpensF P enc w S n (off + P.cellsOf f.type) fs ok1 c1) : OpensF P enc w S n off (f :: fs) (fun x : α × β => ok0 x.1 ∧ ok1 x.2) (fun x => c0 x.1 ++ c1 x.2) := fun hc cs hl hf => by
  simp only [consec, Bool.and_eq_true] at hc
  have h2 := Nat.eq_of_beq_eq_true hc.1
  simp only [cellsF] at hl
  obtain ⟨x, hx⟩ := hf f List.mem_cons_self
  rw [h2, Nat.sub_self, List.drop_zero] at hx
  obtain ⟨a, ha, ra⟩ := h0 _ _ hx
  obtain ⟨b, hb, rb⟩ := h1 hc.2 (cs.drop (P.cellsOf f.type)) (by simp; omega) fun g hg => by
    obtain ⟨y, hy⟩ := hf g (List.mem_cons_of_mem _ hg)
    have := consec_le hc.2 g hg
    refine ⟨y, ?_⟩
    rw [List.drop_drop, show P.cellsOf f.type + (g.offset - (off + P.cellsOf f.type)) = g.offset - off by omega]
    exact hy
  refine ⟨(a, b), ⟨ha, hb⟩, ?_⟩
  have := RelIL_append ra rb
  rw [List.take_append_drop] at this
  exact this

theorem Opens.struct {n : Nat} {t : TypeId} {fs : Array Field} {α : Type} {ok : α → Prop} {c : α → List AV} (ht : P.underlying t = some (.struct fs)) (hc : consec P 0 fs.toList = true) (hl : P.cellsOf t = cellsF P fs.toList)
    (h : OpensF P enc w S n 0 fs.toList ok c) : Opens P enc w S (n + 1) t ok c := fun cs x hx => by
  obtain ⟨xs, m, hm, _, hlen, hxl, hf⟩ := DataW.trod_struct ht hx
  have hmn : m = n := by omega
  subst hmn
  refine h hc cs (by rw [hlen, hl]) fun f hf' => ?_
  obtain ⟨i, hi, rfl⟩ := List.mem_iff_getElem.1 hf'
  have h3 := hf i fs.toList[i] (by simp)
  rw [Nat.sub_zero]
  have hlt : i < xs.length := by rw [hxl]; simpa using hi
  exact ⟨_, by simpa [hlt] using h3⟩

theorem OpensA.struct {t : TypeId} {fs : Array Field} {α : Type} {ok : α → Prop} {c : α → List AV} (ht : P.underlying t = some (.struct fs)) (hc : consec P 0 fs.toList = true) (hl : P.cellsOf t = cellsF P fs.toList)
    (h : ∀ n, OpensF P enc w S n 0 fs.toList ok c) : OpensA P enc w S t ok c
  | 0 => Opens.zero
  | n + 1 => Opens.struct ht hc hl (h n)

/-- What a cell holds, as a value. -/
theorem RelI_Rel {μ : Nat → OI} {a : AV} {y : Value} (h : RelI S w a y) : Rel S μ w a y := by
  cases a <;> first | exact h | exact h.1 | trivial | exact h.elim

end
end Cg

/-
  A law's statement out of its function's contract. No condition.
-/
namespace Cg
open Go Go.ChangeShapes Go.WideShapes Go.RowKit

section
variable {P : Program} {H : Type} {enc : TypeId × Value → H}

theorem Ext.below {W W' : World} (h : Ext W W') : Below W.heap.size W W' := ⟨h.os, h.tape, h.output, h.size, h.block⟩

theorem trodAll_below (hl : laidOutB P = true) {W W' : World} (hb : Below W.heap.size W W') : ∀ {ts : List TypeId} {vs : List Value} {ds : List (DataW H)} {ps : List MemPlace}, (∀ t ∈ ts, P.readableRec t = true ∧ t < P.types.size) →
    DataW.TrodAll enc P W 0 (fun _ => true) true ts vs ds ps → (∀ x ∈ ps, x.block < W.heap.size) → ∀ sp : Nat → Bool, (∀ p ∈ ps, sp p.block = true) → DataW.TrodAll enc P W' 0 sp true ts vs ds ps
  | [], vs, ds, ps, _, h, _, _, _ => by
    obtain ⟨rfl, rfl, rfl⟩ := trodAll_nil h
    rfl
  | t :: ts, vs, ds, ps, ht, h, hlt, sp, hsp => by
    obtain ⟨v, vs', d, ds', p, q, rfl, rfl, rfl, h1, h2⟩ := trodAll_cons h
    exact ⟨p, q, WideElems.Trod_stays hl (ht t (by simp)).1 (ht t (by simp)).2 h1 (fun x hx => hb.same (hlt x (by simp [hx]))) (fun x hx => hsp x (by simp [hx])),
      trodAll_below hl hb (fun t' h' => ht t' (by simp [h'])) h2 (fun x hx => hlt x (by simp [hx])) sp (fun x hx => hsp x (by simp [hx])), rfl⟩

theorem keptBut_of_ext {W W' : World} (h : Ext W W') (may : MemPlace → Prop) : W.keptBut W' may :=
  h.below.frame may

theorem law_post {f : FuncId} {fn : Func} {s : ChangeSpec} {bt : TypeId} (hl : laidOutB P = true) (hread : fn.params.toList.all (fun t => P.readableRec t && decide (t < P.types.size)) = true) (hvars : s.vars = []) (hb : P.underlying bt = some .bool) (hres : fn.resultTypes = #[bt])
    {W : World} {args : Array Value} {ds gs : List (DataW H)} {before : List MemPlace} (hW : DataW.Whole enc P fn.params.toList s.vars false W args.toList ds gs before)
    (hspec : s.fn H ds = { results := [.lit (.bool true)], args := ds })
    (hcall : Calls P f args W fun e W' => e = .returned (.bool true) ∧ Ext W W') :
    Calls P f args W fun e W' => ∃ v, e = .returned v ∧ s.post enc P fn false true false false W args v W' := by
  have hW' := hW
  obtain ⟨p, q, hA, hV, rfl, hfz, hnd⟩ := hW
  rw [hvars] at hV
  obtain ⟨rfl, rfl⟩ := trodVars_none hV
  refine hcall.mono fun e W' ⟨he, hx⟩ => ?_
  subst he
  have hspec' : s.fn H (ds ++ []) = { results := [.lit (.bool true)], args := ds } := by rw [List.append_nil]; exact hspec
  have hlt : ∀ x ∈ p, x.block < W.heap.size := fun x hx => hW'.lt x (by simp [hx])
  have hr : ∀ t ∈ fn.params.toList, P.readableRec t = true ∧ t < P.types.size := fun t ht => by
    have := List.all_eq_true.1 hread t ht
    simpa using this
  have res : ∀ (b : Nat) (sp : Nat → Bool) (hd : Bool), DataW.TrodAll enc P W' b sp hd fn.resultTypes.toList ((Value.bool true).resultList fn.resultTypes.size) (s.fn H (ds ++ [])).results [] := fun _ _ _ => by
    rw [hspec', hres]
    exact trodAll_cons_mk (shut_bool hb _) trodAll_mk0
  have arg : ∀ sp : Nat → Bool, (∀ x ∈ p, sp x.block = true) → DataW.TrodAll enc P W' 0 sp true fn.params.toList args.toList (s.fn H (ds ++ [])).args p := fun sp hsp => by
    rw [hspec']
    exact trodAll_below hl hx.below hr hA hlt sp hsp
  have var : ∀ sp : Nat → Bool, DataW.TrodVars enc P W' sp s.vars (s.fn H (ds ++ [])).vars [] := fun sp => by
    rw [hspec', hvars]
    rfl
  have hold : ∀ x ∈ p, decide (x.block < W.heap.size) = true := fun x h => by simpa using hlt x h
  refine ⟨_, rfl, ds, [], p ++ [], [], p, [], hW', res _ _ _, arg _ hold, var _, World.keptBut_mono (fun x h => ⟨h, .inr (by simpa using h)⟩) (keptBut_of_ext hx _), fun _ => ?_⟩
  refine ⟨ok_one hres rfl (okWide_bool_mk hb _), _, _, ([] ++ p) ++ [], ⟨[] ++ p, [], trodAll_append (arg _ fun _ _ => rfl) (res _ _ _), var _, rfl, fun b off hp => ?_, fun ha => ?_⟩, fun x h _ => ?_⟩
  · have hp : MemPlace.cell b off ∈ p := by simpa using hp
    rw [hx.below.frozen (p := ⟨b, off, none⟩) (hlt _ hp)]
    exact hfz b off (by simpa using hp)
  · exact absurd ha (by simp)
  · simpa using h

/-- A contract whose result is a scalar, at one input. -/
theorem pureAt_of {f : FuncId} {X : Type} {args : X → List AV} {pre : X → Prop} {res : X → AV} (h : SoundC P f (.sc X args pre res)) (x : X) (hp : pre x) : PureAt P f (args x) (res x) := h.2 x hp

/-- A contract at the values that a call was given. -/
theorem PureAt.calls {f : FuncId} {args : List AV} {b : Bool} (h : PureAt P f args (bl b)) {W : World} {vals : List Value} (hg : Gl (fun k => k < W.heap.size) W) (hr : RelL (fun k => k < W.heap.size) mu0 W args vals) : Calls P f vals.toArray W fun e W' => e = .returned (.bool b) ∧ Ext W W' :=
  (h _ W vals (fun _ h => h) hg hr).mono fun e W' he => by
    obtain ⟨y, S', rfl, h1, _, _, _, h5⟩ := he
    exact ⟨by rw [show y = .bool b from h5], h1⟩

section
variable {w : World} {S : Nat → Prop} {t : TypeId} {v : Value} {d : DataW H} {ps : List MemPlace} {r : Reach} {b0 : Nat}

theorem Opens.arg_slice {e : TypeId} {α : Type} {ok : α → Prop} {c : α → AV} (ht : P.underlying t = some (.slice e)) (hval : Value.okWide P w r b0 t v) (hd : DataW.Trod enc P w 0 (fun _ => true) true t v d ps) (h : ∀ n, Opens P enc w S n t ok (fun a => [c a])) : ∃ a, ok a ∧ Rel S mu0 w (c a) v := by
  obtain ⟨a, ha, hr⟩ := Opens.value h hd (fun _ => by obtain ⟨a, l, k, rfl⟩ := okWide_slice ht hval; rfl)
  exact ⟨a, ha, RelI_Rel hr⟩

theorem Opens.arg_int {k : IntKind} (ht : P.underlying t = some (.int k)) (hval : Value.okWide P w r b0 t v) (hd : DataW.Trod enc P w 0 (fun _ => true) true t v d ps) : ∃ x : Int, (Lit.int k x).wf = true ∧ Rel S mu0 w (.v (.int k x)) v := by
  obtain ⟨a, ha, hr⟩ := Opens.value (fun n => Opens.int (S := S) (n := n) ht) hd (fun _ => by obtain ⟨a, rfl⟩ := okWide_int ht hval; rfl)
  exact ⟨a, ha, RelI_Rel hr⟩

theorem Opens.arg_bool (ht : P.underlying t = some .bool) (hval : Value.okWide P w r b0 t v) (hd : DataW.Trod enc P w 0 (fun _ => true) true t v d ps) : ∃ x : Bool, Rel S mu0 w (.v (.bool x)) v := by
  obtain ⟨a, ha, hr⟩ := Opens.value (fun n => Opens.bool (S := S) (n := n) ht) hd (fun _ => by obtain ⟨a, rfl⟩ := okWide_bool ht hval; rfl)
  exact ⟨a, RelI_Rel hr⟩

theorem Opens.arg_string (ht : P.underlying t = some .string) (hval : Value.okWide P w r b0 t v) (hd : DataW.Trod enc P w 0 (fun _ => true) true t v d ps) : ∃ x : ByteArray, x.size ≤ maxLen ∧ Rel S mu0 w (.v (.string x)) v := by
  obtain ⟨a, ha, hr⟩ := Opens.value (fun n => Opens.string (S := S) (n := n) ht) hd (fun _ => by obtain ⟨a, rfl⟩ := okWide_string ht hval; rfl)
  exact ⟨a, ha, RelI_Rel hr⟩

theorem RelIL_RelL : ∀ {as : List AV} {ys : List Value}, RelIL S w as ys → RelL S mu0 w as ys
  | [], _, h => h
  | _ :: _, _, ⟨y, r, e, h1, h2⟩ => ⟨y, r, e, RelI_Rel h1, RelIL_RelL h2⟩

theorem Opens.arg_struct {fs : Array Field} {α : Type} {ok : α → Prop} {c : α → List AV} (ht : P.underlying t = some (.struct fs)) (hval : Value.okWide P w r b0 t v) (hd : DataW.Trod enc P w 0 (fun _ => true) true t v d ps) (h : ∀ n, Opens P enc w S n t ok c) : ∃ a, ok a ∧ Rel S mu0 w (.agg (c a)) v := by
  obtain ⟨cs, rfl, _⟩ := okWide_struct ht hval
  obtain ⟨n, hn⟩ := hd
  obtain ⟨a, ha, hr⟩ := h n _ _ hn
  exact ⟨a, ha, _, rfl, RelIL_RelL hr⟩
end

end
end Cg
