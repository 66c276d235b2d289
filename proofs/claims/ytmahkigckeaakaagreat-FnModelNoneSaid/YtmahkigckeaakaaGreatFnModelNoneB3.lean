/-
  What the law leans on, part 3. No condition.
-/
import Derived.Test.YtmahkigckeaakaaGreatProg
import Derived.Test.YtmahkigckeaakaaGreatFnModelNoneB1
import Derived.Test.YtmahkigckeaakaaGreatFnModelNoneB2
/-
  A row that owns its values is put among rows that own theirs: from what the code does with the slices themselves. No condition.
-/
set_option linter.unusedVariables false
set_option linter.unusedSimpArgs false
namespace Cg
open Go Pl
theorem RelN_keep {S S' : Nat → Prop} {w w' : World} {q : Option Inn} {n e : Nat} {c : Nat → Nat → AV} {y : Value} (h : RelN S w q n e c y) (hc : ∀ i, i < n → ∀ j, j < e → ∃ v, c i j = .v v)
    (hb : ∀ v, q = some v → w'.heap[v.b]? = w.heap[v.b]?) : RelN S' w' q n e c y := by
  cases q with
  | none => exact h
  | some q =>
    obtain ⟨h1, h2, h3, C, T, h4, h5, h6⟩ := h
    refine ⟨h1, h2, h3, C, T, by rw [hb q rfl]; exact h4, h5, fun i hi j hj => ?_⟩
    obtain ⟨x, h7, h8⟩ := h6 i hi j hj
    obtain ⟨v, hv⟩ := hc i hi j hj
    rw [hv] at h8 ⊢
    exact ⟨x, h7, h8⟩
theorem cQ_plain (l : List Rt) : ∀ i, i < l.length → ∀ j, j < 2 → ∃ v, cQ l i j = .v v := fun i _ j hj => by
  match j, hj with
  | 0, _ => exact ⟨_, rfl⟩
  | 1, _ => exact ⟨_, rfl⟩
/-- An inner slice whose block stays, as one known by its header. -/
theorem RelN_hdr {S S' : Nat → Prop} {w : World} {q : Option Inn} {l : List Rt} {y : Value} (h : RelN S w q l.length 2 (cQ l) y) (hS : ∀ v, q = some v → S' v.b) : RelI S' w (hdQ y l) y := by
  refine ⟨rfl, ?_⟩
  cases q with
  | none =>
    obtain ⟨h1, a, rfl⟩ := h
    exact ⟨a, 0, by rw [h1], by omega, .inl h1⟩
  | some q =>
    obtain ⟨h1, h2, rfl, C, T, h4, h5, h6⟩ := h
    refine ⟨_, q.cap, rfl, by omega, .inr ⟨q.b, q.off, rfl, hS q rfl, C, T, _, h4, fun i hi j hj => ?_⟩⟩
    obtain ⟨x, h7, h8⟩ := h6 i hi j hj
    obtain ⟨v, hv⟩ := cQ_plain l i hi j hj
    rw [hv] at h8 ⊢
    exact ⟨x, h7, h8⟩

section
variable {S : Nat → Prop} {μ : Nat → OI} {w : World} {L : List Rw} {r : Rw}

/-- What is known of the rows' slices: headers, and what they own. -/
structure Hds (S : Nat → Prop) (μ : Nat → OI) (w : World) (L : List Rw) (r : Rw) (hd : Nat → Value) (iq : Nat → Option Inn) : Prop where
  rel : ∀ i, i ≤ L.length → RelN S w (iq i) ((L ++ [r]).getD i dR).2.1.length 2 (cQ ((L ++ [r]).getD i dR).2.1) (hd i)
  own : ∀ i v, iq i = some v → i ≤ L.length ∧ Blk μ [xrR L, arQ r.2.1] v.b ∧ (μ 0).b ≠ some v.b
  dis : ∀ i v i' v', iq i = some v → iq i' = some v' → v'.b = v.b → i' = i

/-- The one slice of an own row. -/
def innOf (q : OI) (n : Nat) : Option Inn := match q.b with
  | none => none
  | some b => if q.cap = 0 then none else some ⟨b, q.base, q.cap, n⟩
theorem innOf_rel {o : Nat} {H : List AObj} {l : List Rt} {a : Value} (hok : HOK S μ w H) (ho : H[o]? = some (arQ l)) (ha : Rel S μ w (.osl o 0 l.length) a) : RelN S w (innOf (μ o) l.length) l.length 2 (cQ l) a := by
  obtain ⟨he, hob⟩ := hok.obj o _ ho
  unfold Rel at ha
  unfold innOf
  cases hb : (μ o).b with
  | none =>
    rw [hb] at ha
    obtain ⟨_, h1, a', rfl⟩ := ha
    exact ⟨h1, a', rfl⟩
  | some b =>
    rw [hb] at ha hob
    obtain ⟨h1, a', rfl, h2⟩ := ha
    obtain ⟨h3, C, T, h4, h5, h6⟩ := hob
    by_cases hc : (μ o).cap = 0
    · simp only [hc, if_true]
      exact ⟨by omega, some a', by rw [show l.length = 0 by omega]⟩
    · simp only [hc, if_false]
      have := h2 (by omega)
      subst this
      refine ⟨rfl, h3, by simp, C, T, h4, by rw [← he]; rw [he]; exact h5, fun i hi j hj => ?_⟩
      exact h6 i hi j hj

theorem getD_left {α : Type} {l : List α} {x : α} {i : Nat} (d : α) (h : i < l.length) : (l ++ [x]).getD i d = l.getD i d := by
  simp only [List.getD_eq_getElem?_getD, List.getElem?_append_left h]
theorem getD_last {α : Type} {l : List α} {x : α} (d : α) : (l ++ [x]).getD l.length d = x := by simp

theorem hds_of {a : Value} (hok : HOK S μ w [xrR L, arQ r.2.1]) (ha : Rel S μ w (.osl 1 0 r.2.1.length) a) : ∃ hd iq, Hds S μ w L r hd iq ∧ hd L.length = a ∧
    (∀ b, (μ 0).b = some b → ∃ C T, w.heap[b]? = some (.cells C T (0, 0)) ∧ ∀ i, i < L.length → C[(μ 0).base + i * 4 + 1]? = some (hd i)) := by
  have h0 : ([xrR L, arQ r.2.1] : List AObj)[0]? = some (xrR L) := rfl
  have h1 : ([xrR L, arQ r.2.1] : List AObj)[1]? = some (arQ r.2.1) := rfl
  obtain ⟨he, hinn, hob⟩ := hok.obj 0 _ h0
  have hla := innOf_rel hok h1 ha
  have own1 : ∀ v, innOf (μ 1) r.2.1.length = some v → (μ 1).b = some v.b := fun v hv => by
    unfold innOf at hv
    cases hb : (μ 1).b with
    | none => rw [hb] at hv; cases hv
    | some b =>
      rw [hb] at hv
      simp only at hv
      split at hv
      · cases hv
      · cases hv; rfl
  have key : ∀ hd0 : Nat → Value, (∀ i, i < L.length → RelN S w ((μ 0).inn i 1) (L.getD i dR).2.1.length 2 (cQ (L.getD i dR).2.1) (hd0 i)) →
      Hds S μ w L r (fun i => if i < L.length then hd0 i else a) (fun i => if i < L.length then (μ 0).inn i 1 else if i = L.length then innOf (μ 1) r.2.1.length else none) := fun hd0 hrel => {
    rel := fun i hi => by
      by_cases h : i < L.length
      · simp only [if_pos h, getD_left dR h]
        exact hrel i h
      · have hi' : i = L.length := by omega
        subst hi'
        simp only [if_neg h, if_true, getD_last dR]
        exact hla
    own := fun i v hv => by
      by_cases h : i < L.length
      · simp only [if_pos h] at hv
        exact ⟨by omega, ⟨0, _, h0, .inr ⟨i, 1, v, hv, rfl⟩⟩, (hinn i 1 v hv).1⟩
      · simp only [if_neg h] at hv
        split at hv
        · rename_i hi
          have hb := own1 v hv
          exact ⟨by omega, ⟨1, _, h1, hb⟩, fun h' => hok.seps 0 1 v.b (by decide) ⟨_, h0, .inl h'⟩ ⟨_, h1, hb⟩⟩
        · cases hv
    dis := fun i v i' v' hv hv' hb => by
      by_cases h : i < L.length
      · by_cases h' : i' < L.length
        · simp only [if_pos h] at hv
          simp only [if_pos h'] at hv'
          exact ((hinn i 1 v hv).2.2.2 i' 1 v' hv' hb).1
        · simp only [if_pos h] at hv
          simp only [if_neg h'] at hv'
          split at hv'
          · exact absurd ⟨_, h1, own1 v' hv'⟩ (hok.seps 0 1 v'.b (by decide) ⟨_, h0, .inr ⟨i, 1, v, hv, hb.symm⟩⟩)
          · cases hv'
      · by_cases h' : i' < L.length
        · simp only [if_neg h] at hv
          simp only [if_pos h'] at hv'
          split at hv
          · exact absurd ⟨_, h1, own1 v hv⟩ (hok.seps 0 1 v.b (by decide) ⟨_, h0, .inr ⟨i', 1, v', hv', hb⟩⟩)
          · cases hv
        · simp only [if_neg h] at hv
          simp only [if_neg h'] at hv'
          split at hv
          · split at hv'
            · omega
            · cases hv'
          · cases hv }
  cases hb0 : (μ 0).b with
  | none =>
    rw [hb0] at hob
    have hn : L.length = 0 := hob
    exact ⟨_, _, key (fun _ => a) fun i hi => by omega, by simp, fun b hb => by cases hb⟩
  | some b0 =>
    rw [hb0] at hob
    obtain ⟨h3, C, T, h4, h5, h6⟩ := hob
    refine ⟨_, _, key (fun i => C.getD ((μ 0).base + i * 4 + 1) undef) fun i hi => ?_, by simp, fun b hb => ?_⟩
    · obtain ⟨x, h7, h8⟩ := h6 i hi 1 (by decide)
      have e : C.getD ((μ 0).base + i * 4 + 1) undef = x := by rw [Array.getD_eq_getD_getElem?, h7]; rfl
      rw [e]
      exact h8
    · cases hb
      refine ⟨C, T, h4, fun i hi => ?_⟩
      obtain ⟨x, h7, h8⟩ := h6 i hi 1 (by decide)
      have e : C.getD ((μ 0).base + i * 4 + 1) undef = x := by rw [Array.getD_eq_getD_getElem?, h7]; rfl
      simp only [if_pos hi, e]
      exact h7

theorem nodup_inj {l : List Nat} (h : l.Nodup) {i j : Nat} (hi : i < l.length) (hj : j < l.length) (e : l[i] = l[j]) : i = j := by
  rcases Nat.lt_trichotomy i j with h1 | h1 | h1
  · exact absurd e (List.pairwise_iff_getElem.1 h i j hi hj h1)
  · exact h1
  · exact absurd e.symm (List.pairwise_iff_getElem.1 h j i hj hi h1)
/-- What stays while the rows are moved: what stays anyhow, and what they own. -/
def SOwn (S : Nat → Prop) (iq : Nat → Option Inn) : Nat → Prop := fun b => S b ∨ ∃ i v, iq i = some v ∧ v.b = b
def hrows (hd : Nat → Value) (L : List Rw) : List HRw := (List.range L.length).map fun i => (hd i, L.getD i dR)
@[simp] theorem hrows_len (hd : Nat → Value) (L : List Rw) : (hrows hd L).length = L.length := by unfold hrows; simp
theorem hrows_get {hd : Nat → Value} {L : List Rw} {i : Nat} (h : i < L.length) : (hrows hd L).getD i dH = (hd i, L.getD i dR) := by unfold hrows; simp [h]

theorem open_hok {hd : Nat → Value} {iq : Nat → Option Inn} (hok : HOK S μ w [xrR L, arQ r.2.1]) (hh : Hds S μ w L r hd iq)
    (hc : ∀ b, (μ 0).b = some b → ∃ C T, w.heap[b]? = some (.cells C T (0, 0)) ∧ ∀ i, i < L.length → C[(μ 0).base + i * 4 + 1]? = some (hd i)) : HOK (SOwn S iq) μ w [arRH (hrows hd L)] := by
  have h0 : ([xrR L, arQ r.2.1] : List AObj)[0]? = some (xrR L) := rfl
  obtain ⟨he, hinn, hob⟩ := hok.obj 0 _ h0
  have only : ∀ o b, Own μ [arRH (hrows hd L)] o b → o = 0 ∧ (μ 0).b = some b := fun o b ⟨x, hx, hb⟩ => by
    cases o with
    | zero => cases hx; exact ⟨rfl, hb⟩
    | succ o => simp at hx
  refine { obj := fun o x hx => ?_, ids := fun o cs hx => ?_, seps := fun o o' b hne h1 h2 => ?_, owns := fun o b h => ?_, inS := fun b hb => ?_ }
  · cases o with
    | succ o => simp at hx
    | zero =>
      cases hx
      refine ⟨he, ?_⟩
      cases hb : (μ 0).b with
      | none =>
        rw [hb] at hob
        show (hrows hd L).length = 0
        rw [hrows_len]; exact hob
      | some b =>
        rw [hb] at hob
        obtain ⟨h3, C, T, h4, h5, h6⟩ := hob
        obtain ⟨C', T', h4', h7⟩ := hc b hb
        rw [h4] at h4'
        cases h4'
        refine ⟨by rw [hrows_len]; exact h3, C, T, h4, h5, fun i hi j hj => ?_⟩
        rw [hrows_len] at hi
        obtain ⟨x, h8, h9⟩ := h6 i hi j hj
        refine ⟨x, h8, ?_⟩
        show RelI (SOwn S iq) w (eRH ((hrows hd L).getD i dH) j) x
        rw [hrows_get hi]
        match j, hj with
        | 0, _ => exact h9
        | 1, _ =>
          have e := h7 i hi
          rw [h8] at e
          cases e
          have hr := hh.rel i (by omega)
          rw [getD_left dR hi] at hr
          exact RelN_hdr hr fun v hv => .inr ⟨i, v, hv, rfl⟩
        | 2, _ => exact h9
        | 3, _ => exact h9
  · cases o with
    | succ o => simp at hx
    | zero => cases hx
  · exact hne ((only o b h1).1.trans (only o' b h2).1.symm)
  · obtain ⟨rfl, hb⟩ := only o b h
    obtain ⟨h1, h2⟩ := hok.owns 0 b ⟨_, h0, .inl hb⟩
    refine ⟨fun hs => ?_, h2⟩
    rcases hs with hs | ⟨i, v, hv, rfl⟩
    · exact h1 hs
    · exact (hh.own i v hv).2.2 hb
  · rcases hb with hb | ⟨i, v, hv, rfl⟩
    · exact hok.inS b hb
    · obtain ⟨o, h⟩ := (hh.own i v hv).2.1
      exact (hok.owns o _ h).2

theorem close_evo {hd : Nat → Value} {iq : Nat → Option Inn} {S' : Nat → Prop} {μ' : Nat → OI} {w' : World} {idx : List Nat} {v : Value} (hok : HOK S μ w [xrR L, arQ r.2.1]) (hh : Hds S μ w L r hd iq)
    (hnd : idx.Nodup) (hle : ∀ i ∈ idx, i ≤ L.length)
    (hev : Evo (SOwn S iq) μ [arRH (hrows hd L)] w S' μ' [.dead, arRH (idx.map fun i => (hrows hd L ++ [(hd L.length, r)]).getD i dH)] w') (hv : Rel S' μ' w' (.osl 1 0 idx.length) v) :
    ∃ S'' μ'', Evo S μ [xrR L, arQ r.2.1] w S'' μ'' [.dead, .dead, xrR (idx.map fun i => (L ++ [r]).getD i dR)] w' ∧ Rel S'' μ'' w' (.osl 2 0 idx.length) v := by
  have h0 : ([xrR L, arQ r.2.1] : List AObj)[0]? = some (xrR L) := rfl
  generalize hidx : (idx.map fun i => (hrows hd L ++ [(hd L.length, r)]).getD i dH) = Y at hev
  have hYl : Y.length = idx.length := by rw [← hidx]; simp
  have hYg : ∀ i, i < idx.length → Y.getD i dH = (hd (idx.getD i 0), (L ++ [r]).getD (idx.getD i 0) dR) := fun i hi => by
    have hm : idx.getD i 0 ≤ L.length := hle _ (getD_mem 0 hi)
    rw [← hidx]
    have e : (idx.map fun i => (hrows hd L ++ [(hd L.length, r)]).getD i dH).getD i dH = (hrows hd L ++ [(hd L.length, r)]).getD (idx.getD i 0) dH := by simp [hi]
    rw [e]
    by_cases h : idx.getD i 0 < L.length
    · rw [getD_left dH (by rw [hrows_len]; exact h), hrows_get h, getD_left dR h]
    · have e2 : idx.getD i 0 = L.length := by omega
      rw [e2, getD_last dR]
      have := getD_last (l := hrows hd L) (x := (hd L.length, r)) dH
      rw [hrows_len] at this
      exact this
  have hA : ([AObj.dead, arRH Y] : List AObj)[1]? = some (arRH Y) := rfl
  have hlt : ∀ i u, iq i = some u → u.b < w.heap.size ∧ ¬ S u.b := fun i u hu => by
    obtain ⟨o, h⟩ := (hh.own i u hu).2.1
    exact ⟨(hok.owns o _ h).2, (hok.owns o _ h).1⟩
  have hkeep : ∀ i u, iq i = some u → w'.heap[u.b]? = w.heap[u.b]? := fun i u hu => hev.kept.block u.b (hlt i u hu).1 fun ⟨o, x, hx, hb⟩ => by
    cases o with
    | zero => cases hx; exact (hh.own i u hu).2.2 hb
    | succ o => simp at hx
  have hb0 : ∀ b, Blk μ [arRH (hrows hd L)] b → (μ 0).b = some b := fun b ⟨o, x, hx, hb⟩ => by
    cases o with
    | zero => cases hx; exact hb
    | succ o => simp at hx
  obtain ⟨he, hob⟩ := hev.hok.obj 1 _ hA
  let inn' : Nat → Nat → Option Inn := fun i j => if j = 1 ∧ i < idx.length then iq (idx.getD i 0) else none
  let μ'' : Nat → OI := fun o => if o < 2 then μ o else { μ' 1 with inn := inn' }
  have m2 : μ'' 2 = { μ' 1 with inn := inn' } := rfl
  have hinn' : ∀ i j u, inn' i j = some u → j = 1 ∧ i < idx.length ∧ iq (idx.getD i 0) = some u := fun i j u hu => by
    by_cases h : j = 1 ∧ i < idx.length
    · have : inn' i j = iq (idx.getD i 0) := if_pos h
      rw [this] at hu
      exact ⟨h.1, h.2, hu⟩
    · have : inn' i j = none := if_neg h
      rw [this] at hu; cases hu
  have outer : ∀ b, (μ' 1).b = some b → (w.heap.size ≤ b ∨ (μ 0).b = some b) ∧ ¬ S b ∧ b < w'.heap.size ∧ ¬ S' b := fun b hb => by
    have ho : Own μ' [AObj.dead, arRH Y] 1 b := ⟨_, hA, hb⟩
    have h1 := hev.mine 1 b ho
    have h2 := hev.hok.owns 1 b ho
    refine ⟨h1.imp id (hb0 b), fun hs => h2.1 (hev.sub b (.inl hs)), h2.2, h2.1⟩
  have own2 : ∀ o b, Own μ'' [AObj.dead, .dead, xrR (idx.map fun i => (L ++ [r]).getD i dR)] o b → o = 2 ∧ ((μ' 1).b = some b ∨ ∃ i j u, inn' i j = some u ∧ u.b = b) := fun o b ⟨x, hx, hb⟩ => by
    match o, hx with
    | 0, hx => cases hx; exact hb.elim
    | 1, hx => cases hx; exact hb.elim
    | 2, hx => cases hx; exact ⟨rfl, hb⟩
    | o + 3, hx => simp at hx
  refine ⟨S, μ'', { sub := fun _ h => h, new := fun _ h => .inl h, mu := fun o ho => if_pos ho, len := by simp, kept := ⟨hev.kept.os, hev.kept.tape, hev.kept.output, hev.kept.size, fun b hb hn => hev.kept.block b hb fun h => hn ⟨0, _, h0, .inl (hb0 b h)⟩⟩, mine := fun o b ho => ?_, hok := ?_ }, ?_⟩
  · obtain ⟨rfl, h⟩ := own2 o b ho
    rcases h with h | ⟨i, j, u, hu, rfl⟩
    · rcases (outer b h).1 with h1 | h1
      · exact .inl h1
      · exact .inr ⟨0, _, h0, .inl h1⟩
    · obtain ⟨_, _, hu⟩ := hinn' i j u hu
      exact .inr (hh.own _ u hu).2.1
  · refine { obj := fun o x hx => ?_, ids := fun o cs hx => ?_, seps := fun o o' b hne h1 h2 => ?_, owns := fun o b ho => ?_, inS := fun b hb => Nat.lt_of_lt_of_le (hok.inS b hb) hev.kept.size }
    · match o, hx with
      | 0, hx => cases hx; trivial
      | 1, hx => cases hx; trivial
      | o + 3, hx => simp at hx
      | 2, hx =>
        cases hx
        refine ⟨he, fun i j u hu => ?_, ?_⟩
        · obtain ⟨rfl, hi, hu⟩ := hinn' i j u hu
          refine ⟨fun hb => (outer u.b hb).2.2.2 (hev.sub _ (.inr ⟨_, u, hu, rfl⟩)), by simpa using hi, by decide, fun i' j' u' hu' hbb => ?_⟩
          obtain ⟨rfl, hi', hu'⟩ := hinn' i' j' u' hu'
          have e := hh.dis _ u _ u' hu hu' hbb
          refine ⟨?_, rfl⟩
          have e1 : idx.getD i 0 = idx[i] := by simp [hi]
          have e2 : idx.getD i' 0 = idx[i'] := by simp [hi']
          rw [e1, e2] at e
          exact nodup_inj hnd hi' hi e
        · show match (μ' 1).b with
            | none => _
            | some b => _
          cases hb : (μ' 1).b with
          | none =>
            rw [hb] at hob
            have : Y.length = 0 := hob
            show (idx.map fun i => (L ++ [r]).getD i dR).length = 0
            simp; rw [← List.length_eq_zero_iff]; omega
          | some b =>
            rw [hb] at hob
            obtain ⟨h3, C, T, h4, h5, h6⟩ := hob
            refine ⟨by simp; rw [← hYl]; exact h3, C, T, h4, h5, fun i hi j hj => ?_⟩
            have hi : i < idx.length := by simpa using hi
            obtain ⟨x, h7, h8⟩ := h6 i (by omega) j hj
            refine ⟨x, h7, ?_⟩
            replace h8 : RelI S' w' (eRH (Y.getD i dH) j) x := h8
            rw [hYg i hi] at h8
            have e : (idx.map fun i => (L ++ [r]).getD i dR).getD i dR = (L ++ [r]).getD (idx.getD i 0) dR := by simp [hi]
            show RelX S inn' w' i j (eR ((idx.map fun i => (L ++ [r]).getD i dR).getD i dR) j) x
            rw [e]
            match j, hj with
            | 0, _ => exact h8
            | 1, _ =>
              have hx : x = hd (idx.getD i 0) := h8.1
              show RelN S w' (inn' i 1) _ 2 _ x
              have hi1 : inn' i 1 = iq (idx.getD i 0) := if_pos ⟨rfl, hi⟩
              rw [hi1, hx]
              exact RelN_keep (hh.rel _ (hle _ (getD_mem 0 hi))) (cQ_plain _) fun u hu => hkeep _ u hu
            | 2, _ => exact h8
            | 3, _ => exact h8
    · match o, hx with
      | 0, hx => cases hx
      | 1, hx => cases hx
      | 2, hx => cases hx
      | o + 3, hx => simp at hx
    · exact hne ((own2 o b h1).1.trans (own2 o' b h2).1.symm)
    · obtain ⟨rfl, h⟩ := own2 o b ho
      rcases h with h | ⟨i, j, u, hu, rfl⟩
      · exact ⟨(outer b h).2.1, (outer b h).2.2.1⟩
      · obtain ⟨_, _, hu⟩ := hinn' i j u hu
        exact ⟨(hlt _ u hu).2, Nat.lt_of_lt_of_le (hlt _ u hu).1 hev.kept.size⟩
  · exact hv
end

/-- From what the code does with the slices themselves to what it does with rows that own theirs. -/
theorem put_own {P : Program} (h : SoundC P K_l7Put.1 K_l7Put.2) : SoundC P K_l7PutX.1 K_l7PutX.2 := by
  refine ⟨h.1, fun x hp S μ w vals hok hrel => ?_⟩
  obtain ⟨L, r⟩ := x
  obtain ⟨p1, p2, p3⟩ : L.length ≤ 1000 ∧ (∀ y ∈ L, y.2.1.length ≤ 1000) ∧ r.2.1.length ≤ 1000 := hp
  obtain ⟨v0, rest, rfl, hv0, v1, rest', rfl, hv1, hre⟩ := hrel
  cases hre
  obtain ⟨vs, rfl, nm, rs, rfl, hnm, a, rs1, rfl, ha, vn, rs2, rfl, hvn, vd, rs3, rfl, hvd, hr3⟩ := hv1
  cases hr3
  obtain ⟨hd, iq, hh, hda, hc⟩ := hds_of hok ha
  have hrel' : RelL (SOwn S iq) μ w [.osl 0 0 (hrows hd L).length, rowB (hdQ (hd L.length) r.2.1) r] [v0, .agg #[nm, a, vn, vd]] := by
    refine ⟨v0, _, rfl, by rw [hrows_len]; exact hv0, _, [], rfl, ⟨[nm, a, vn, vd], rfl, nm, _, rfl, hnm, a, _, rfl, ?_, vn, _, rfl, hvn, vd, _, rfl, hvd, rfl⟩, rfl⟩
    have := hh.rel L.length (Nat.le_refl _)
    rw [getD_last dR, hda] at this
    rw [hda]
    exact RelN_hdr this fun v hv => .inr ⟨_, v, hv, rfl⟩
  have := h.2 (hrows hd L, (hd L.length, r)) ⟨by rw [hrows_len]; exact p1, fun y hy => by
    unfold hrows at hy
    obtain ⟨i, hi, rfl⟩ := List.mem_map.1 hy
    have hi := List.mem_range.1 hi
    exact p2 _ (getD_mem dR hi), p3⟩ (SOwn S iq) μ w _ (open_hok hok hh hc) hrel'
  refine Calls.mono this fun e w' he => ?_
  obtain ⟨v, y, S', μ', rfl, hy, hev, hr⟩ := he
  obtain ⟨y1, y2, y3⟩ : HPut (hrows hd L).length y := hy
  rw [hrows_len] at y1 y3
  obtain ⟨S'', μ'', hev', hr'⟩ := close_evo hok hh y2 y3 hev hr
  exact ⟨v, y, S'', μ'', rfl, ⟨y1, y2, y3⟩, hev', hr'⟩
end Cg

/-
  What is left to show of each function's code, printed by a program: Mok. No condition.
-/
set_option maxRecDepth 100000
set_option linter.unusedVariables false
namespace Cg
open Go Go.Proofs
theorem vc_l1Abs (x : Int) : (condP (Decidable.decide (x < (-1000000000 : Int))) ((1000000001 : Int) = Pl.abs1 x)
 (condP (Decidable.decide (x > (1000000000 : Int))) ((1000000001 : Int) = Pl.abs1 x)
 (condP (Decidable.decide (x < (0 : Int))) (IntKind.i64.wrap ((0 : Int) - x) = Pl.abs1 x) (x = Pl.abs1 x)))) = Goal Tryz.prog [] ([]) K_l1Abs.1 K_l1Abs.2 (x) := by kernel_rfl

theorem vc_l1Gcd (a b : Nat) : ((Exists fun (x : Nat × Nat) =>
 (x.fst ≤ (4611686018427387904 : Nat) ∧ x.snd ≤ (4611686018427387904 : Nat) ∧ x.fst.gcd x.snd = a.gcd b) ∧ ((↑a : Int) = (↑x.fst : Int) ∧ (↑b : Int) = (↑x.snd : Int) ∧ True) ∧ True) ∧
 ∀ (x : Nat × Nat),
 x.fst ≤ (4611686018427387904 : Nat) ∧ x.snd ≤ (4611686018427387904 : Nat) ∧ x.fst.gcd x.snd = a.gcd b →
 condP (Decidable.decide ((↑x.snd : Int) > (0 : Int)))
 ((↑x.snd : Int) ≠ (0 : Int) ∧
 Exists fun (x' : Nat × Nat) =>
 (x'.fst ≤ (4611686018427387904 : Nat) ∧ x'.snd ≤ (4611686018427387904 : Nat) ∧ x'.fst.gcd x'.snd = a.gcd b) ∧
 x'.snd < x.snd ∧ ((↑x.snd : Int) = (↑x'.fst : Int) ∧ (↑x.fst : Int).tmod (↑x.snd : Int) = (↑x'.snd : Int) ∧ True) ∧ True)
 ((↑x.fst : Int) = (↑(a.gcd b) : Int))) = Goal Tryz.prog [] (A_l1Gcd a b) K_l1Gcd.1 K_l1Gcd.2 ((a, b)) := by kernel_rfl

theorem vc_gcd (a b : Int) : ((Exists fun (x : Nat × Nat) =>
 (x.fst ≤ (4611686018427387904 : Nat) ∧ x.snd ≤ (4611686018427387904 : Nat) ∧ x.fst.gcd x.snd = a.natAbs.gcd b.natAbs) ∧
 ((if IntKind.i64.wrap ((0 : Int) - a) > a then IntKind.i64.wrap ((0 : Int) - a) else a) = (↑x.fst : Int) ∧
 (if IntKind.i64.wrap ((0 : Int) - b) > b then IntKind.i64.wrap ((0 : Int) - b) else b) = (↑x.snd : Int) ∧ True) ∧
 True) ∧
 ∀ (x : Nat × Nat),
 x.fst ≤ (4611686018427387904 : Nat) ∧ x.snd ≤ (4611686018427387904 : Nat) ∧ x.fst.gcd x.snd = a.natAbs.gcd b.natAbs →
 condP (Decidable.decide ((↑x.snd : Int) > (0 : Int)))
 ((↑x.snd : Int) ≠ (0 : Int) ∧
 Exists fun (x' : Nat × Nat) =>
 (x'.fst ≤ (4611686018427387904 : Nat) ∧ x'.snd ≤ (4611686018427387904 : Nat) ∧ x'.fst.gcd x'.snd = a.natAbs.gcd b.natAbs) ∧
 x'.snd < x.snd ∧ ((↑x.snd : Int) = (↑x'.fst : Int) ∧ (↑x.fst : Int).tmod (↑x.snd : Int) = (↑x'.snd : Int) ∧ True) ∧ True)
 ((↑x.fst : Int) = (↑(a.natAbs.gcd b.natAbs) : Int))) = Goal Tryz.prog [] (A_gcd a b) K_gcd.1 K_gcd.2 ((a, b)) := by kernel_rfl

theorem vc_sRatOk (x : Pl.Rt) : (Exists fun (x_1 : Int) =>
 (x.fst = x_1 ∧ True) ∧
 True ∧
 condP (Decidable.decide (Pl.abs1 x_1 ≤ (1000000000 : Int)))
 (condP (Decidable.decide (x.snd ≥ (1 : Int)))
 (condP (Decidable.decide (x.snd ≤ (1000000000 : Int)))
 (Exists fun (x_2 : Int) =>
 (x.fst = x_2 ∧ True) ∧
 True ∧
 Exists fun (x_3 : Nat × Nat) =>
 (Pl.abs1 x_2 = (↑x_3.fst : Int) ∧ x.snd = (↑x_3.snd : Int) ∧ True) ∧
 (x_3.fst ≤ (4611686018427387904 : Nat) ∧ x_3.snd ≤ (4611686018427387904 : Nat)) ∧ ((↑(x_3.fst.gcd x_3.snd) : Int) == (1 : Int)) = Pl.ratOk x)
 (Bool.false = Pl.ratOk x))
 (Bool.false = Pl.ratOk x))
 (Bool.false = Pl.ratOk x)) = Goal Tryz.prog [K_l1Abs, K_l1Gcd] ([]) K_sRatOk.1 K_sRatOk.2 (x) := by kernel_rfl

theorem vc_iRatOk (x : Pl.Rt) : (Exists fun (x_1 : Int × Int × Int) =>
 (x.fst = x_1.fst ∧ (-1000000000 : Int) = x_1.snd.fst ∧ (1000000000 : Int) = x_1.snd.snd ∧ True) ∧
 True ∧
 condP (Pl.withinI x_1.fst x_1.snd.fst x_1.snd.snd)
 (Exists fun (x_2 : Int × Int × Int) =>
 (x.snd = x_2.fst ∧ (1 : Int) = x_2.snd.fst ∧ (1000000000 : Int) = x_2.snd.snd ∧ True) ∧
 True ∧
 condP (Pl.withinI x_2.fst x_2.snd.fst x_2.snd.snd)
 (Exists fun (x_3 : Int × Int) =>
 (x.fst = x_3.fst ∧ x.snd = x_3.snd ∧ True) ∧
 (x_3.fst.natAbs ≤ (4611686018427387904 : Nat) ∧ x_3.snd.natAbs ≤ (4611686018427387904 : Nat)) ∧ ((↑(x_3.fst.natAbs.gcd x_3.snd.natAbs) : Int) == (1 : Int)) = Pl.ratOk x)
 (Bool.false = Pl.ratOk x))
 (Bool.false = Pl.ratOk x)) = Goal Tryz.prog [K_within, K_gcd] ([]) K_iRatOk.1 K_iRatOk.2 (x) := by kernel_rfl

theorem vc_sRatLess (x : Pl.Rt × Pl.Rt) : (Exists fun (x_1 : Pl.Rt) =>
 ((x.fst.fst = x_1.fst ∧ x.fst.snd = x_1.snd ∧ True) ∧ True) ∧
 True ∧
 condP (Pl.ratOk x_1)
 (Exists fun (x_2 : Pl.Rt) =>
 ((x.snd.fst = x_2.fst ∧ x.snd.snd = x_2.snd ∧ True) ∧ True) ∧
 True ∧
 condP (Pl.ratOk x_2) (Decidable.decide (IntKind.i64.wrap (x.fst.fst * x.snd.snd) < IntKind.i64.wrap (x.snd.fst * x.fst.snd)) = Pl.ratLess x.fst x.snd)
 (Bool.false = Pl.ratLess x.fst x.snd))
 (Bool.false = Pl.ratLess x.fst x.snd)) = Goal Tryz.prog [K_sRatOk] ([]) K_sRatLess.1 K_sRatLess.2 (x) := by kernel_rfl

theorem vc_iRatLess (x : Pl.Rt × Pl.Rt) : (Exists fun (x_1 : Pl.Rt) =>
 ((x.fst.fst = x_1.fst ∧ x.fst.snd = x_1.snd ∧ True) ∧ True) ∧
 True ∧
 condP (Pl.ratOk x_1)
 (Exists fun (x_2 : Pl.Rt) =>
 ((x.snd.fst = x_2.fst ∧ x.snd.snd = x_2.snd ∧ True) ∧ True) ∧
 True ∧
 condP (Pl.ratOk x_2) (Decidable.decide (IntKind.i64.wrap (x.fst.fst * x.snd.snd) < IntKind.i64.wrap (x.snd.fst * x.fst.snd)) = Pl.ratLess x.fst x.snd)
 (Bool.false = Pl.ratLess x.fst x.snd))
 (Bool.false = Pl.ratLess x.fst x.snd)) = Goal Tryz.prog [K_iRatOk] ([]) K_iRatLess.1 K_iRatLess.2 (x) := by kernel_rfl

theorem vc_compareRats (x : Pl.Rt × Pl.Rt) : (Exists fun (x_1 : Pl.Rt × Pl.Rt) =>
 ((x.fst.fst = x_1.fst.fst ∧ x.fst.snd = x_1.fst.snd ∧ True) ∧ (x.snd.fst = x_1.snd.fst ∧ x.snd.snd = x_1.snd.snd ∧ True) ∧ True) ∧
 True ∧
 condP (Pl.ratLess x_1.fst x_1.snd) ((-1 : Int) = Pl.cmpRat x.fst x.snd)
 (Exists fun (x_2 : Pl.Rt × Pl.Rt) =>
 ((x.snd.fst = x_2.fst.fst ∧ x.snd.snd = x_2.fst.snd ∧ True) ∧ (x.fst.fst = x_2.snd.fst ∧ x.fst.snd = x_2.snd.snd ∧ True) ∧ True) ∧
 True ∧ condP (Pl.ratLess x_2.fst x_2.snd) ((1 : Int) = Pl.cmpRat x.fst x.snd) ((0 : Int) = Pl.cmpRat x.fst x.snd))) = Goal Tryz.prog [K_iRatLess] ([]) K_compareRats.1 K_compareRats.2 (x) := by kernel_rfl

theorem vc_l7Row (x : Pl.Rw) : ((Exists fun (x_1 : Nat) =>
 (x_1 ≤ x.snd.fst.length ∧ x.snd.fst.all Pl.ratOk = (List.drop x_1 x.snd.fst).all Pl.ratOk) ∧
 ((0 : Nat) = (0 : Nat) ∧ (0 : Int) = (↑x_1 : Int) ∧ True) ∧
 (x.fst = x.fst ∧ Is (rats x.snd.fst) (rats x.snd.fst) ∧ x.snd.snd.fst = x.snd.snd.fst ∧ x.snd.snd.snd = x.snd.snd.snd ∧ True) ∧ True) ∧
 ∀ (x_1 : Nat),
 x_1 ≤ x.snd.fst.length ∧ x.snd.fst.all Pl.ratOk = (List.drop x_1 x.snd.fst).all Pl.ratOk →
 condP (Decidable.decide ((↑x_1 : Int) < (↑x.snd.fst.length : Int)))
 (((0 : Int) ≤ (↑x_1 : Int) ∧ (↑x_1 : Int) < (↑x.snd.fst.length : Int)) ∧
 x_1 < x.snd.fst.length ∧
 Exists fun (x_2 : Pl.Rt) =>
 (((x.snd.fst.getD x_1 Pl.dQ).fst = x_2.fst ∧ (x.snd.fst.getD x_1 Pl.dQ).snd = x_2.snd ∧ True) ∧ True) ∧
 True ∧
 condP (!Pl.ratOk x_2) (Bool.false = Pl.rowOk x)
 (Exists fun (x' : Nat) =>
 (x' ≤ x.snd.fst.length ∧ x.snd.fst.all Pl.ratOk = (List.drop x' x.snd.fst).all Pl.ratOk) ∧
 x.snd.fst.length - x' < x.snd.fst.length - x_1 ∧
 ((0 : Nat) = (0 : Nat) ∧ IntKind.i64.wrap ((↑x_1 : Int) + (1 : Int)) = (↑x' : Int) ∧ True) ∧
 (x.fst = x.fst ∧ Is (rats x.snd.fst) (rats x.snd.fst) ∧ x.snd.snd.fst = x.snd.snd.fst ∧ x.snd.snd.snd = x.snd.snd.snd ∧ True) ∧ True))
 (Exists fun (x_2 : ByteArray) =>
 (x.fst = x_2 ∧ True) ∧
 x_2.size ≤ (1048576 : Nat) ∧
 condP (Pl.nameOk x_2)
 (condP (Decidable.decide ((↑x.snd.fst.length : Int) ≤ (2 : Int)))
 (Exists fun (x_3 : Pl.Rt) => ((x.snd.snd.fst = x_3.fst ∧ x.snd.snd.snd = x_3.snd ∧ True) ∧ True) ∧ True ∧ Pl.ratOk x_3 = Pl.rowOk x) (Bool.false = Pl.rowOk x))
 (Bool.false = Pl.rowOk x))) = Goal Tryz.prog [K_sRatOk, K_sNameOk] (A_l7Row x) K_l7Row.1 K_l7Row.2 (x) := by kernel_rfl

theorem vc_l7Less (x : Pl.Rw × Pl.Rw) : (condP (!x.fst.fst.toList == x.snd.fst.toList) (Op.bytesLess x.fst.fst.toList x.snd.fst.toList = Pl.rowLess x.fst x.snd)
 (condP ((↑x.fst.snd.fst.length : Int) != (↑x.snd.snd.fst.length : Int)) (Decidable.decide ((↑x.fst.snd.fst.length : Int) < (↑x.snd.snd.fst.length : Int)) = Pl.rowLess x.fst x.snd)
 ((Exists fun (x_1 : Nat) =>
 (x_1 ≤ x.fst.snd.fst.length ∧ x.fst.snd.fst.length = x.snd.snd.fst.length ∧ Pl.rowLess x.fst x.snd = Pl.argsLess (List.drop x_1 x.fst.snd.fst) (List.drop x_1 x.snd.snd.fst)) ∧
 ((0 : Nat) = (0 : Nat) ∧ (0 : Nat) = (0 : Nat) ∧ (0 : Int) = (↑x_1 : Int) ∧ True) ∧
 (x.fst.fst = x.fst.fst ∧ Is (rats x.fst.snd.fst) (rats x.fst.snd.fst) ∧ x.fst.snd.snd.fst = x.fst.snd.snd.fst ∧ x.fst.snd.snd.snd = x.fst.snd.snd.snd ∧ True) ∧
 (x.snd.fst = x.snd.fst ∧ Is (rats x.snd.snd.fst) (rats x.snd.snd.fst) ∧ x.snd.snd.snd.fst = x.snd.snd.snd.fst ∧ x.snd.snd.snd.snd = x.snd.snd.snd.snd ∧ True) ∧ True) ∧
 ∀ (x_1 : Nat),
 x_1 ≤ x.fst.snd.fst.length ∧ x.fst.snd.fst.length = x.snd.snd.fst.length ∧ Pl.rowLess x.fst x.snd = Pl.argsLess (List.drop x_1 x.fst.snd.fst) (List.drop x_1 x.snd.snd.fst) →
 condP (Decidable.decide ((↑x_1 : Int) < (↑x.fst.snd.fst.length : Int)))
 (((0 : Int) ≤ (↑x_1 : Int) ∧ (↑x_1 : Int) < (↑x.fst.snd.fst.length : Int)) ∧
 x_1 < x.fst.snd.fst.length ∧
 ((0 : Int) ≤ (↑x_1 : Int) ∧ (↑x_1 : Int) < (↑x.snd.snd.fst.length : Int)) ∧
 x_1 < x.snd.snd.fst.length ∧
 condP (!((x.fst.snd.fst.getD x_1 Pl.dQ).fst == (x.snd.snd.fst.getD x_1 Pl.dQ).fst && (x.fst.snd.fst.getD x_1 Pl.dQ).snd == (x.snd.snd.fst.getD x_1 Pl.dQ).snd))
 (((0 : Int) ≤ (↑x_1 : Int) ∧ (↑x_1 : Int) < (↑x.fst.snd.fst.length : Int)) ∧
 x_1 < x.fst.snd.fst.length ∧
 ((0 : Int) ≤ (↑x_1 : Int) ∧ (↑x_1 : Int) < (↑x.snd.snd.fst.length : Int)) ∧
 x_1 < x.snd.snd.fst.length ∧
 Exists fun (x_2 : Pl.Rt × Pl.Rt) =>
 (((x.fst.snd.fst.getD x_1 Pl.dQ).fst = x_2.fst.fst ∧ (x.fst.snd.fst.getD x_1 Pl.dQ).snd = x_2.fst.snd ∧ True) ∧
 ((x.snd.snd.fst.getD x_1 Pl.dQ).fst = x_2.snd.fst ∧ (x.snd.snd.fst.getD x_1 Pl.dQ).snd = x_2.snd.snd ∧ True) ∧ True) ∧
 True ∧ Pl.ratLess x_2.fst x_2.snd = Pl.rowLess x.fst x.snd)
 (Exists fun (x' : Nat) =>
 (x' ≤ x.fst.snd.fst.length ∧ x.fst.snd.fst.length = x.snd.snd.fst.length ∧ Pl.rowLess x.fst x.snd = Pl.argsLess (List.drop x' x.fst.snd.fst) (List.drop x' x.snd.snd.fst)) ∧
 x.fst.snd.fst.length - x' < x.fst.snd.fst.length - x_1 ∧
 ((0 : Nat) = (0 : Nat) ∧ (0 : Nat) = (0 : Nat) ∧ IntKind.i64.wrap ((↑x_1 : Int) + (1 : Int)) = (↑x' : Int) ∧ True) ∧
 (x.fst.fst = x.fst.fst ∧ Is (rats x.fst.snd.fst) (rats x.fst.snd.fst) ∧ x.fst.snd.snd.fst = x.fst.snd.snd.fst ∧ x.fst.snd.snd.snd = x.fst.snd.snd.snd ∧ True) ∧
 (x.snd.fst = x.snd.fst ∧ Is (rats x.snd.snd.fst) (rats x.snd.snd.fst) ∧ x.snd.snd.snd.fst = x.snd.snd.snd.fst ∧ x.snd.snd.snd.snd = x.snd.snd.snd.snd ∧ True) ∧
 True))
 (Bool.false = Pl.rowLess x.fst x.snd)))) = Goal Tryz.prog [K_sRatLess] (A_l7Less x.1 x.2) K_l7Less.1 K_l7Less.2 (x) := by kernel_rfl

theorem vc_l7Right (x : Pl.Mdl) : ((Exists fun (x_1 : Nat) =>
 (x_1 ≤ List.length x ∧ Pl.mL Option.none x = Pl.mL (Pl.prevR x x_1) (List.drop x_1 x)) ∧
 ((0 : Nat) = (0 : Nat) ∧ (0 : Int) = (↑x_1 : Int) ∧ True) ∧ (Is (mrows x) (mrows x) ∧ True) ∧ True) ∧
 ∀ (x_1 : Nat),
 x_1 ≤ List.length x ∧ Pl.mL Option.none x = Pl.mL (Pl.prevR x x_1) (List.drop x_1 x) →
 condP (Decidable.decide ((↑x_1 : Int) < (↑(List.length x) : Int)))
 (((0 : Int) ≤ (↑x_1 : Int) ∧ (↑x_1 : Int) < (↑(List.length x) : Int)) ∧
 x_1 < List.length x ∧
 Exists fun (x_2 : Pl.Rw) =>
 (((List.getD x x_1 Pl.dR).fst = x_2.fst ∧
 Is (rats (List.getD x x_1 Pl.dR).snd.fst) (rats x_2.snd.fst) ∧
 (List.getD x x_1 Pl.dR).snd.snd.fst = x_2.snd.snd.fst ∧ (List.getD x x_1 Pl.dR).snd.snd.snd = x_2.snd.snd.snd ∧ True) ∧
 True) ∧
 (x_2.fst.size ≤ (1048576 : Nat) ∧ x_2.snd.fst.length ≤ (1048576 : Nat)) ∧
 condP (!Pl.rowOk x_2) (Bool.false = Pl.mRight x)
 (condP (Decidable.decide ((↑x_1 : Int) > (0 : Int)))
 (((0 : Int) ≤ IntKind.i64.wrap ((↑x_1 : Int) - (1 : Int)) ∧ IntKind.i64.wrap ((↑x_1 : Int) - (1 : Int)) < (↑(List.length x) : Int)) ∧
 (IntKind.i64.wrap ((↑x_1 : Int) - (1 : Int))).toNat < List.length x ∧
 ((0 : Int) ≤ (↑x_1 : Int) ∧ (↑x_1 : Int) < (↑(List.length x) : Int)) ∧
 x_1 < List.length x ∧
 Exists fun (x_3 : Pl.Rw × Pl.Rw) =>
 (((List.getD x (IntKind.i64.wrap ((↑x_1 : Int) - (1 : Int))).toNat Pl.dR).fst = x_3.fst.fst ∧
 Is (rats (List.getD x (IntKind.i64.wrap ((↑x_1 : Int) - (1 : Int))).toNat Pl.dR).snd.fst) (rats x_3.fst.snd.fst) ∧
 (List.getD x (IntKind.i64.wrap ((↑x_1 : Int) - (1 : Int))).toNat Pl.dR).snd.snd.fst = x_3.fst.snd.snd.fst ∧
 (List.getD x (IntKind.i64.wrap ((↑x_1 : Int) - (1 : Int))).toNat Pl.dR).snd.snd.snd = x_3.fst.snd.snd.snd ∧ True) ∧
 ((List.getD x x_1 Pl.dR).fst = x_3.snd.fst ∧
 Is (rats (List.getD x x_1 Pl.dR).snd.fst) (rats x_3.snd.snd.fst) ∧
 (List.getD x x_1 Pl.dR).snd.snd.fst = x_3.snd.snd.snd.fst ∧ (List.getD x x_1 Pl.dR).snd.snd.snd = x_3.snd.snd.snd.snd ∧ True) ∧
 True) ∧
 x_3.fst.snd.fst.length ≤ (1048576 : Nat) ∧
 condP (!Pl.rowLess x_3.fst x_3.snd) (Bool.false = Pl.mRight x)
 (Exists fun (x' : Nat) =>
 (x' ≤ List.length x ∧ Pl.mL Option.none x = Pl.mL (Pl.prevR x x') (List.drop x' x)) ∧
 List.length x - x' < List.length x - x_1 ∧
 ((0 : Nat) = (0 : Nat) ∧ IntKind.i64.wrap ((↑x_1 : Int) + (1 : Int)) = (↑x' : Int) ∧ True) ∧ (Is (mrows x) (mrows x) ∧ True) ∧ True))
 (Exists fun (x' : Nat) =>
 (x' ≤ List.length x ∧ Pl.mL Option.none x = Pl.mL (Pl.prevR x x') (List.drop x' x)) ∧
 List.length x - x' < List.length x - x_1 ∧
 ((0 : Nat) = (0 : Nat) ∧ IntKind.i64.wrap ((↑x_1 : Int) + (1 : Int)) = (↑x' : Int) ∧ True) ∧ (Is (mrows x) (mrows x) ∧ True) ∧ True)))
 (Decidable.decide ((↑(List.length x) : Int) ≤ (40 : Int)) = Pl.mRight x)) = Goal Tryz.prog [K_l7Row, K_l7Less] (A_l7Right x) K_l7Right.1 K_l7Right.2 (x) := by kernel_rfl

theorem vc_l7Fit (x : Pl.Rt × Int) : (Exists fun (x_1 : Pl.Rt) =>
 ((x.fst.fst = x_1.fst ∧ x.fst.snd = x_1.snd ∧ True) ∧ True) ∧
 True ∧ condP (Pl.ratOk x_1) (condP (x.snd == (1 : Int)) (Bool.true = Pl.fit x.fst x.snd) ((x.fst.snd == (1 : Int)) = Pl.fit x.fst x.snd)) (Bool.false = Pl.fit x.fst x.snd)) = Goal Tryz.prog [K_sRatOk] ([]) K_l7Fit.1 K_l7Fit.2 (x) := by kernel_rfl

theorem vc_sModelOk (x : Pl.Sig × Pl.Mdl) : (Exists fun (x_1 : Pl.Sig) =>
 ((Is (syms x.fst) (syms x_1) ∧ True) ∧ True) ∧
 SmG x_1 ∧
 condP (!Pl.sigOk x_1) (Bool.false = Pl.modelOk x.fst x.snd)
 (Exists fun (x_2 : Pl.Mdl) =>
 ((Is (mrows x.snd) (mrows x_2) ∧ True) ∧ True) ∧
 SmM x_2 ∧
 condP (!Pl.mRight x_2) (Bool.false = Pl.modelOk x.fst x.snd)
 ((Exists fun (x_3 : Nat) =>
 (x_3 ≤ List.length x.snd ∧ Pl.modelOk x.fst x.snd = (List.drop x_3 x.snd).all (Pl.rowFits x.fst)) ∧
 ((0 : Nat) = (0 : Nat) ∧ (0 : Nat) = (0 : Nat) ∧ (0 : Int) = (↑x_3 : Int) ∧ True) ∧
 (Is (syms x.fst) (syms x.fst) ∧ True) ∧ (Is (mrows x.snd) (mrows x.snd) ∧ True) ∧ True) ∧
 ∀ (x_3 : Nat),
 x_3 ≤ List.length x.snd ∧ Pl.modelOk x.fst x.snd = (List.drop x_3 x.snd).all (Pl.rowFits x.fst) →
 condP (Decidable.decide ((↑x_3 : Int) < (↑(List.length x.snd) : Int)))
 (((0 : Int) ≤ (↑x_3 : Int) ∧ (↑x_3 : Int) < (↑(List.length x.snd) : Int)) ∧
 x_3 < List.length x.snd ∧
 Exists fun (x_4 : Pl.Sig × ByteArray) =>
 ((Is (syms x.fst) (syms x_4.fst) ∧ True) ∧ (List.getD x.snd x_3 Pl.dR).fst = x_4.snd ∧ True) ∧
 SmG x_4.fst ∧
 condP (!(Pl.find x_4.fst x_4.snd).isSome) (Bool.false = Pl.modelOk x.fst x.snd)
 (((0 : Int) ≤ (↑x_3 : Int) ∧ (↑x_3 : Int) < (↑(List.length x.snd) : Int)) ∧
 x_3 < List.length x.snd ∧
 condP ((↑(Pl.symOf x_4.fst x_4.snd).snd.fst.length : Int) != (↑(List.getD x.snd x_3 Pl.dR).snd.fst.length : Int)) (Bool.false = Pl.modelOk x.fst x.snd)
 (((0 : Int) ≤ (↑x_3 : Int) ∧ (↑x_3 : Int) < (↑(List.length x.snd) : Int)) ∧
 x_3 < List.length x.snd ∧
 Exists fun (x_5 : Pl.Rt × Int) =>
 (((List.getD x.snd x_3 Pl.dR).snd.snd.fst = x_5.fst.fst ∧ (List.getD x.snd x_3 Pl.dR).snd.snd.snd = x_5.fst.snd ∧ True) ∧
 (Pl.symOf x_4.fst x_4.snd).snd.snd = x_5.snd ∧ True) ∧
 True ∧
 condP (!Pl.fit x_5.fst x_5.snd) (Bool.false = Pl.modelOk x.fst x.snd)
 ((Exists fun (x_6 : Nat) =>
 (x_3 < List.length x.snd ∧
 x_6 ≤ (List.getD x.snd x_3 Pl.dR).snd.fst.length ∧
 (Pl.symOf x.fst (List.getD x.snd x_3 Pl.dR).fst).snd.fst.length = (List.getD x.snd x_3 Pl.dR).snd.fst.length ∧
 Pl.rowFits x.fst (List.getD x.snd x_3 Pl.dR) =
 Pl.fitL (List.drop x_6 (List.getD x.snd x_3 Pl.dR).snd.fst)
 (List.drop x_6 (Pl.symOf x.fst (List.getD x.snd x_3 Pl.dR).fst).snd.fst)) ∧
 ((0 : Nat) = (0 : Nat) ∧ (0 : Nat) = (0 : Nat) ∧ (↑x_3 : Int) = (↑x_3 : Int) ∧ (0 : Nat) = (0 : Nat) ∧ (0 : Int) = (↑x_6 : Int) ∧ True) ∧
 (Is (syms x.fst) (syms x.fst) ∧ True) ∧
 (Is (mrows x.snd) (mrows x.snd) ∧ True) ∧
 ((Pl.symOf x_4.fst x_4.snd).fst = (Pl.symOf x.fst (List.getD x.snd x_3 Pl.dR).fst).fst ∧
 Is (ints (Pl.symOf x_4.fst x_4.snd).snd.fst) (ints (Pl.symOf x.fst (List.getD x.snd x_3 Pl.dR).fst).snd.fst) ∧
 (Pl.symOf x_4.fst x_4.snd).snd.snd = (Pl.symOf x.fst (List.getD x.snd x_3 Pl.dR).fst).snd.snd ∧ True) ∧
 True) ∧
 ∀ (x_6 : Nat),
 x_3 < List.length x.snd ∧
 x_6 ≤ (List.getD x.snd x_3 Pl.dR).snd.fst.length ∧
 (Pl.symOf x.fst (List.getD x.snd x_3 Pl.dR).fst).snd.fst.length = (List.getD x.snd x_3 Pl.dR).snd.fst.length ∧
 Pl.rowFits x.fst (List.getD x.snd x_3 Pl.dR) =
 Pl.fitL (List.drop x_6 (List.getD x.snd x_3 Pl.dR).snd.fst)
 (List.drop x_6 (Pl.symOf x.fst (List.getD x.snd x_3 Pl.dR).fst).snd.fst) →
 condP (Decidable.decide ((↑x_6 : Int) < (↑(Pl.symOf x.fst (List.getD x.snd x_3 Pl.dR).fst).snd.fst.length : Int)))
 (((0 : Int) ≤ (↑x_3 : Int) ∧ (↑x_3 : Int) < (↑(List.length x.snd) : Int)) ∧
 x_3 < List.length x.snd ∧
 ((0 : Int) ≤ (↑x_6 : Int) ∧ (↑x_6 : Int) < (↑(List.getD x.snd x_3 Pl.dR).snd.fst.length : Int)) ∧
 x_6 < (List.getD x.snd x_3 Pl.dR).snd.fst.length ∧
 ((0 : Int) ≤ (↑x_6 : Int) ∧ (↑x_6 : Int) < (↑(Pl.symOf x.fst (List.getD x.snd x_3 Pl.dR).fst).snd.fst.length : Int)) ∧
 x_6 < (Pl.symOf x.fst (List.getD x.snd x_3 Pl.dR).fst).snd.fst.length ∧
 Exists fun (x_7 : Pl.Rt × Int) =>
 ((((List.getD x.snd x_3 Pl.dR).snd.fst.getD x_6 Pl.dQ).fst = x_7.fst.fst ∧
 ((List.getD x.snd x_3 Pl.dR).snd.fst.getD x_6 Pl.dQ).snd = x_7.fst.snd ∧ True) ∧
 (Pl.symOf x.fst (List.getD x.snd x_3 Pl.dR).fst).snd.fst.getD x_6 (0 : Int) = x_7.snd ∧ True) ∧
 True ∧
 condP (!Pl.fit x_7.fst x_7.snd) (Bool.false = Pl.modelOk x.fst x.snd)
 (Exists fun (x' : Nat) =>
 (x_3 < List.length x.snd ∧
 x' ≤ (List.getD x.snd x_3 Pl.dR).snd.fst.length ∧
 (Pl.symOf x.fst (List.getD x.snd x_3 Pl.dR).fst).snd.fst.length = (List.getD x.snd x_3 Pl.dR).snd.fst.length ∧
 Pl.rowFits x.fst (List.getD x.snd x_3 Pl.dR) =
 Pl.fitL (List.drop x' (List.getD x.snd x_3 Pl.dR).snd.fst)
 (List.drop x' (Pl.symOf x.fst (List.getD x.snd x_3 Pl.dR).fst).snd.fst)) ∧
 (List.getD x.snd x_3 Pl.dR).snd.fst.length - x' < (List.getD x.snd x_3 Pl.dR).snd.fst.length - x_6 ∧
 ((0 : Nat) = (0 : Nat) ∧
 (0 : Nat) = (0 : Nat) ∧
 (↑x_3 : Int) = (↑x_3 : Int) ∧
 (0 : Nat) = (0 : Nat) ∧ IntKind.i64.wrap ((↑x_6 : Int) + (1 : Int)) = (↑x' : Int) ∧ True) ∧
 (Is (syms x.fst) (syms x.fst) ∧ True) ∧
 (Is (mrows x.snd) (mrows x.snd) ∧ True) ∧
 ((Pl.symOf x.fst (List.getD x.snd x_3 Pl.dR).fst).fst =
 (Pl.symOf x.fst (List.getD x.snd x_3 Pl.dR).fst).fst ∧
 Is (ints (Pl.symOf x.fst (List.getD x.snd x_3 Pl.dR).fst).snd.fst)
 (ints (Pl.symOf x.fst (List.getD x.snd x_3 Pl.dR).fst).snd.fst) ∧
 (Pl.symOf x.fst (List.getD x.snd x_3 Pl.dR).fst).snd.snd =
 (Pl.symOf x.fst (List.getD x.snd x_3 Pl.dR).fst).snd.snd ∧
 True) ∧
 True))
 (Exists fun (x' : Nat) =>
 (x' ≤ List.length x.snd ∧ Pl.modelOk x.fst x.snd = (List.drop x' x.snd).all (Pl.rowFits x.fst)) ∧
 List.length x.snd - x' < List.length x.snd - x_3 ∧
 ((0 : Nat) = (0 : Nat) ∧ (0 : Nat) = (0 : Nat) ∧ IntKind.i64.wrap ((↑x_3 : Int) + (1 : Int)) = (↑x' : Int) ∧ True) ∧
 (Is (syms x.fst) (syms x.fst) ∧ True) ∧ (Is (mrows x.snd) (mrows x.snd) ∧ True) ∧ True)))))
 (Bool.true = Pl.modelOk x.fst x.snd)))) = Goal Tryz.prog [K_sSigOk, K_l7Right, K_l4Find, K_l7Fit] (A_sModelOk x.1 x.2) K_sModelOk.1 K_sModelOk.2 (x) := by kernel_rfl

theorem vc_RowOk1 (x : Pl.Rt) : (Exists fun (x_1 : Pl.Rt) => ((x.fst = x_1.fst ∧ x.snd = x_1.snd ∧ True) ∧ True) ∧ True ∧ (!Pl.ratOk x_1) = !Pl.ratOk x) = Goal Tryz.prog [K_iRatOk] ([]) K_RowOk1.1 K_RowOk1.2 (x) := by kernel_rfl

theorem vc_IndexRat (x : List Pl.Rt) : ((Exists fun (x_1 : Nat) =>
 (x_1 ≤ x.length ∧
 Pl.idx (fun (y : Pl.Rt) => !Pl.ratOk y) x =
 if Pl.idx (fun (y : Pl.Rt) => !Pl.ratOk y) (List.drop x_1 x) < (0 : Int) then (-1 : Int) else Pl.idx (fun (y : Pl.Rt) => !Pl.ratOk y) (List.drop x_1 x) + (↑x_1 : Int)) ∧
 (Is (rats x) (rats x) ∧ True ∧ (↑x.length : Int) = (↑x.length : Int) ∧ (0 : Int) = (↑x_1 : Int) ∧ True) ∧ True) ∧
 ∀ (x_1 : Nat),
 (x_1 ≤ x.length ∧
 Pl.idx (fun (y : Pl.Rt) => !Pl.ratOk y) x =
 if Pl.idx (fun (y : Pl.Rt) => !Pl.ratOk y) (List.drop x_1 x) < (0 : Int) then (-1 : Int) else Pl.idx (fun (y : Pl.Rt) => !Pl.ratOk y) (List.drop x_1 x) + (↑x_1 : Int)) →
 condP (Decidable.decide ((↑x_1 : Int) < (↑x.length : Int)))
 (((0 : Int) ≤ (↑x_1 : Int) ∧ (↑x_1 : Int) < (↑x.length : Int)) ∧
 x_1 < x.length ∧
 Exists fun (x_2 : Pl.Rt) =>
 (((x.getD x_1 Pl.dQ).fst = x_2.fst ∧ (x.getD x_1 Pl.dQ).snd = x_2.snd ∧ True) ∧ True) ∧
 True ∧
 condP (!Pl.ratOk x_2) ((↑x_1 : Int) = Pl.idx (fun (y : Pl.Rt) => !Pl.ratOk y) x)
 (Exists fun (x' : Nat) =>
 (x' ≤ x.length ∧
 Pl.idx (fun (y : Pl.Rt) => !Pl.ratOk y) x =
 if Pl.idx (fun (y : Pl.Rt) => !Pl.ratOk y) (List.drop x' x) < (0 : Int) then (-1 : Int) else Pl.idx (fun (y : Pl.Rt) => !Pl.ratOk y) (List.drop x' x) + (↑x' : Int)) ∧
 x.length - x' < x.length - x_1 ∧
 (Is (rats x) (rats x) ∧ True ∧ (↑x.length : Int) = (↑x.length : Int) ∧ IntKind.i64.wrap ((↑x_1 : Int) + (1 : Int)) = (↑x' : Int) ∧ True) ∧ True))
 ((-1 : Int) = Pl.idx (fun (y : Pl.Rt) => !Pl.ratOk y) x)) = Goal Tryz.prog [K_RowOk1] (A_IndexRat x) K_IndexRat.1 K_IndexRat.2 (x) := by kernel_rfl

theorem vc_ContainsRat (x : List Pl.Rt) : (Exists fun (x_1 : List Pl.Rt) =>
 (Is (rats x) (rats x_1) ∧ True ∧ True) ∧ Sz x_1 ∧ Decidable.decide (Pl.idx (fun (y : Pl.Rt) => !Pl.ratOk y) x_1 ≥ (0 : Int)) = x.any fun (y : Pl.Rt) => !Pl.ratOk y) = Goal Tryz.prog [K_IndexRat] ([]) K_ContainsRat.1 K_ContainsRat.2 (x) := by kernel_rfl

theorem vc_rowOk (x : Pl.Rw) : (Exists fun (x_1 : ByteArray) =>
 (x.fst = x_1 ∧ True) ∧
 x_1.size ≤ (1048576 : Nat) ∧
 condP (Pl.nameOk x_1)
 (condP (Decidable.decide ((↑x.snd.fst.length : Int) ≤ (2 : Int)))
 (Exists fun (x_2 : Pl.Rt) =>
 ((x.snd.snd.fst = x_2.fst ∧ x.snd.snd.snd = x_2.snd ∧ True) ∧ True) ∧
 True ∧
 condP (Pl.ratOk x_2) (Exists fun (x_3 : List Pl.Rt) => (Is (rats x.snd.fst) (rats x_3) ∧ True ∧ True) ∧ Sz x_3 ∧ (!x_3.any fun (y : Pl.Rt) => !Pl.ratOk y) = Pl.rowOk x)
 (Bool.false = Pl.rowOk x))
 (Bool.false = Pl.rowOk x))
 (Bool.false = Pl.rowOk x)) = Goal Tryz.prog [K_iNameOk, K_iRatOk, K_ContainsRat] ([]) K_rowOk.1 K_rowOk.2 (x) := by kernel_rfl

theorem vc_isNaNS (x : ByteArray) : ((!x.toList == x.toList) = Bool.false) = Goal Tryz.prog [] ([]) K_isNaNS.1 K_isNaNS.2 (x) := by kernel_rfl

theorem vc_isNaNI (x : Int) : ((x != x) = Bool.false) = Goal Tryz.prog [] ([]) K_isNaNI.1 K_isNaNI.2 (x) := by kernel_rfl

theorem vc_CompareS (x : ByteArray × ByteArray) : (Exists fun (x_1 : ByteArray) =>
 (x.fst = x_1 ∧ True) ∧
 True ∧
 Exists fun (x_2 : ByteArray) =>
 (x.snd = x_2 ∧ True) ∧
 True ∧
 condP (Op.bytesLess x.fst.toList x.snd.toList) ((-1 : Int) = Pl.cmpS x.fst x.snd)
 (condP (!(Op.bytesLess x.fst.toList x.snd.toList || x.fst.toList == x.snd.toList)) ((1 : Int) = Pl.cmpS x.fst x.snd) ((0 : Int) = Pl.cmpS x.fst x.snd))) = Goal Tryz.prog [K_isNaNS] ([]) K_CompareS.1 K_CompareS.2 (x) := by kernel_rfl

theorem vc_CompareI (x : Int × Int) : (Exists fun (x_1 : Int) =>
 (x.fst = x_1 ∧ True) ∧
 True ∧
 Exists fun (x_2 : Int) =>
 (x.snd = x_2 ∧ True) ∧
 True ∧
 condP (Decidable.decide (x.fst < x.snd)) ((-1 : Int) = Pl.cmpI x.fst x.snd)
 (condP (Decidable.decide (x.fst > x.snd)) ((1 : Int) = Pl.cmpI x.fst x.snd) ((0 : Int) = Pl.cmpI x.fst x.snd))) = Goal Tryz.prog [K_isNaNI] ([]) K_CompareI.1 K_CompareI.2 (x) := by kernel_rfl

theorem vc_Or (x : List Int) : ((Exists fun (x_1 : Nat) =>
 (x_1 ≤ x.length ∧ Pl.orI x = Pl.orI (List.drop x_1 x)) ∧ ((0 : Int) = (0 : Int) ∧ Is (ints x) (ints x) ∧ (↑x.length : Int) = (↑x.length : Int) ∧ (0 : Int) = (↑x_1 : Int) ∧ True) ∧ True) ∧
 ∀ (x_1 : Nat),
 x_1 ≤ x.length ∧ Pl.orI x = Pl.orI (List.drop x_1 x) →
 condP (Decidable.decide ((↑x_1 : Int) < (↑x.length : Int)))
 (((0 : Int) ≤ (↑x_1 : Int) ∧ (↑x_1 : Int) < (↑x.length : Int)) ∧
 x_1 < x.length ∧
 condP (x.getD x_1 (0 : Int) != (0 : Int)) (x.getD x_1 (0 : Int) = Pl.orI x)
 (Exists fun (x' : Nat) =>
 (x' ≤ x.length ∧ Pl.orI x = Pl.orI (List.drop x' x)) ∧
 x.length - x' < x.length - x_1 ∧
 ((0 : Int) = (0 : Int) ∧ Is (ints x) (ints x) ∧ (↑x.length : Int) = (↑x.length : Int) ∧ IntKind.i64.wrap ((↑x_1 : Int) + (1 : Int)) = (↑x' : Int) ∧ True) ∧ True))
 ((0 : Int) = Pl.orI x)) = Goal Tryz.prog [] (A_Or x) K_Or.1 K_Or.2 (x) := by kernel_rfl

theorem vc_CompareFunc (x : List Pl.Rt × List Pl.Rt) : ((Exists fun (x_1 : Nat) =>
 (x_1 ≤ x.fst.length ∧ x_1 ≤ x.snd.length ∧ Pl.cmpArgs x.fst x.snd = Pl.cmpArgs (List.drop x_1 x.fst) (List.drop x_1 x.snd)) ∧
 (Is (rats x.fst) (rats x.fst) ∧
 Is (rats x.snd) (rats x.snd) ∧ True ∧ Is (rats x.fst) (rats x.fst) ∧ (↑x.fst.length : Int) = (↑x.fst.length : Int) ∧ (0 : Int) = (↑x_1 : Int) ∧ True) ∧
 True) ∧
 ∀ (x_1 : Nat),
 x_1 ≤ x.fst.length ∧ x_1 ≤ x.snd.length ∧ Pl.cmpArgs x.fst x.snd = Pl.cmpArgs (List.drop x_1 x.fst) (List.drop x_1 x.snd) →
 condP (Decidable.decide ((↑x_1 : Int) < (↑x.fst.length : Int)))
 (((0 : Int) ≤ (↑x_1 : Int) ∧ (↑x_1 : Int) < (↑x.fst.length : Int)) ∧
 x_1 < x.fst.length ∧
 condP (Decidable.decide ((↑x_1 : Int) ≥ (↑x.snd.length : Int))) ((1 : Int) = Pl.cmpArgs x.fst x.snd)
 (((0 : Int) ≤ (↑x_1 : Int) ∧ (↑x_1 : Int) < (↑x.snd.length : Int)) ∧
 x_1 < x.snd.length ∧
 Exists fun (x_2 : Pl.Rt × Pl.Rt) =>
 (((x.fst.getD x_1 Pl.dQ).fst = x_2.fst.fst ∧ (x.fst.getD x_1 Pl.dQ).snd = x_2.fst.snd ∧ True) ∧
 ((x.snd.getD x_1 Pl.dQ).fst = x_2.snd.fst ∧ (x.snd.getD x_1 Pl.dQ).snd = x_2.snd.snd ∧ True) ∧ True) ∧
 True ∧
 condP (Pl.cmpRat x_2.fst x_2.snd != (0 : Int)) (Pl.cmpRat x_2.fst x_2.snd = Pl.cmpArgs x.fst x.snd)
 (Exists fun (x' : Nat) =>
 (x' ≤ x.fst.length ∧ x' ≤ x.snd.length ∧ Pl.cmpArgs x.fst x.snd = Pl.cmpArgs (List.drop x' x.fst) (List.drop x' x.snd)) ∧
 x.fst.length - x' < x.fst.length - x_1 ∧
 (Is (rats x.fst) (rats x.fst) ∧
 Is (rats x.snd) (rats x.snd) ∧
 True ∧
 Is (rats x.fst) (rats x.fst) ∧ (↑x.fst.length : Int) = (↑x.fst.length : Int) ∧ IntKind.i64.wrap ((↑x_1 : Int) + (1 : Int)) = (↑x' : Int) ∧ True) ∧
 True)))
 (condP (Decidable.decide ((↑x.fst.length : Int) < (↑x.snd.length : Int))) ((-1 : Int) = Pl.cmpArgs x.fst x.snd) ((0 : Int) = Pl.cmpArgs x.fst x.snd))) = Goal Tryz.prog [K_compareRats] (A_CompareFunc x.1 x.2) K_CompareFunc.1 K_CompareFunc.2 (x) := by kernel_rfl

theorem vc_compareRows (x : Pl.Rw × Pl.Rw) : (Exists fun (x_1 : ByteArray × ByteArray) =>
 (x.fst.fst = x_1.fst ∧ x.snd.fst = x_1.snd ∧ True) ∧
 True ∧
 Exists fun (x_2 : Int × Int) =>
 ((↑x.fst.snd.fst.length : Int) = x_2.fst ∧ (↑x.snd.snd.fst.length : Int) = x_2.snd ∧ True) ∧
 True ∧
 Exists fun (x_3 : List Pl.Rt × List Pl.Rt) =>
 (Is (rats x.fst.snd.fst) (rats x_3.fst) ∧ Is (rats x.snd.snd.fst) (rats x_3.snd) ∧ True ∧ True) ∧
 (Sz x_3.fst ∧ Sz x_3.snd) ∧
 Exists fun (x_4 : List Int) =>
 (Is (AV.lit (3 : Nat) (1 : Nat) (rowsCell [[i64 (Pl.cmpS x_1.fst x_1.snd)], [i64 (Pl.cmpI x_2.fst x_2.snd)], [i64 (Pl.cmpArgs x_3.fst x_3.snd)]])) (ints x_4) ∧
 True) ∧
 Sz x_4 ∧ Pl.orI x_4 = Pl.cmpRows x.fst x.snd) = Goal Tryz.prog [K_CompareS, K_CompareI, K_CompareFunc, K_Or] ([]) K_compareRows.1 K_compareRows.2 (x) := by kernel_rfl

theorem vc_iModel (x : Pl.Mdl) : (condP (Decidable.decide ((↑(List.length x) : Int) > (40 : Int))) (Bool.false = Pl.mRight x)
 ((Exists fun (x_1 : Nat) =>
 (x_1 ≤ List.length x ∧ Pl.mL Option.none x = Pl.mL (Pl.prevR x x_1) (List.drop x_1 x) ∧ (x_1 ≠ (0 : Nat) → Pl.rowOk (List.getD x (x_1 - (1 : Nat)) Pl.dR) = Bool.true)) ∧
 ((0 : Nat) = (0 : Nat) ∧ Is (mrows x) (mrows x) ∧ (↑(List.length x) : Int) = (↑(List.length x) : Int) ∧ (0 : Int) = (↑x_1 : Int) ∧ True) ∧
 (Is (mrows x) (mrows x) ∧ True) ∧ True) ∧
 ∀ (x_1 : Nat),
 x_1 ≤ List.length x ∧ Pl.mL Option.none x = Pl.mL (Pl.prevR x x_1) (List.drop x_1 x) ∧ (x_1 ≠ (0 : Nat) → Pl.rowOk (List.getD x (x_1 - (1 : Nat)) Pl.dR) = Bool.true) →
 condP (Decidable.decide ((↑x_1 : Int) < (↑(List.length x) : Int)))
 (((0 : Int) ≤ (↑x_1 : Int) ∧ (↑x_1 : Int) < (↑(List.length x) : Int)) ∧
 x_1 < List.length x ∧
 Exists fun (x_2 : Pl.Rw) =>
 (((List.getD x x_1 Pl.dR).fst = x_2.fst ∧
 Is (rats (List.getD x x_1 Pl.dR).snd.fst) (rats x_2.snd.fst) ∧
 (List.getD x x_1 Pl.dR).snd.snd.fst = x_2.snd.snd.fst ∧ (List.getD x x_1 Pl.dR).snd.snd.snd = x_2.snd.snd.snd ∧ True) ∧
 True) ∧
 (x_2.fst.size ≤ (1048576 : Nat) ∧ x_2.snd.fst.length ≤ (1048576 : Nat)) ∧
 condP (!Pl.rowOk x_2) (Bool.false = Pl.mRight x)
 (condP (Decidable.decide ((↑x_1 : Int) > (0 : Int)))
 (((0 : Int) ≤ IntKind.i64.wrap ((↑x_1 : Int) - (1 : Int)) ∧ IntKind.i64.wrap ((↑x_1 : Int) - (1 : Int)) < (↑(List.length x) : Int)) ∧
 (IntKind.i64.wrap ((↑x_1 : Int) - (1 : Int))).toNat < List.length x ∧
 Exists fun (x_3 : Pl.Rw × Pl.Rw) =>
 (((List.getD x (IntKind.i64.wrap ((↑x_1 : Int) - (1 : Int))).toNat Pl.dR).fst = x_3.fst.fst ∧
 Is (rats (List.getD x (IntKind.i64.wrap ((↑x_1 : Int) - (1 : Int))).toNat Pl.dR).snd.fst) (rats x_3.fst.snd.fst) ∧
 (List.getD x (IntKind.i64.wrap ((↑x_1 : Int) - (1 : Int))).toNat Pl.dR).snd.snd.fst = x_3.fst.snd.snd.fst ∧
 (List.getD x (IntKind.i64.wrap ((↑x_1 : Int) - (1 : Int))).toNat Pl.dR).snd.snd.snd = x_3.fst.snd.snd.snd ∧ True) ∧
 ((List.getD x x_1 Pl.dR).fst = x_3.snd.fst ∧
 Is (rats (List.getD x x_1 Pl.dR).snd.fst) (rats x_3.snd.snd.fst) ∧
 (List.getD x x_1 Pl.dR).snd.snd.fst = x_3.snd.snd.snd.fst ∧ (List.getD x x_1 Pl.dR).snd.snd.snd = x_3.snd.snd.snd.snd ∧ True) ∧
 True) ∧
 (Sz x_3.fst.snd.fst ∧ Sz x_3.snd.snd.fst) ∧
 condP (Decidable.decide (Pl.cmpRows x_3.fst x_3.snd ≥ (0 : Int))) (Bool.false = Pl.mRight x)
 (Exists fun (x' : Nat) =>
 (x' ≤ List.length x ∧
 Pl.mL Option.none x = Pl.mL (Pl.prevR x x') (List.drop x' x) ∧ (x' ≠ (0 : Nat) → Pl.rowOk (List.getD x (x' - (1 : Nat)) Pl.dR) = Bool.true)) ∧
 List.length x - x' < List.length x - x_1 ∧
 ((0 : Nat) = (0 : Nat) ∧
 Is (mrows x) (mrows x) ∧
 (↑(List.length x) : Int) = (↑(List.length x) : Int) ∧ IntKind.i64.wrap ((↑x_1 : Int) + (1 : Int)) = (↑x' : Int) ∧ True) ∧
 (Is (mrows x) (mrows x) ∧ True) ∧ True))
 (Exists fun (x' : Nat) =>
 (x' ≤ List.length x ∧ Pl.mL Option.none x = Pl.mL (Pl.prevR x x') (List.drop x' x) ∧ (x' ≠ (0 : Nat) → Pl.rowOk (List.getD x (x' - (1 : Nat)) Pl.dR) = Bool.true)) ∧
 List.length x - x' < List.length x - x_1 ∧
 ((0 : Nat) = (0 : Nat) ∧
 Is (mrows x) (mrows x) ∧ (↑(List.length x) : Int) = (↑(List.length x) : Int) ∧ IntKind.i64.wrap ((↑x_1 : Int) + (1 : Int)) = (↑x' : Int) ∧ True) ∧
 (Is (mrows x) (mrows x) ∧ True) ∧ True)))
 (Bool.true = Pl.mRight x))) = Goal Tryz.prog [K_rowOk, K_compareRows] (A_iModel x) K_iModel.1 K_iModel.2 (x) := by kernel_rfl

theorem vc_suits (x : Pl.Rt × Int) : (condP (x.snd == (1 : Int)) (Bool.true = Pl.suit x.fst x.snd) ((x.fst.snd == (1 : Int)) = Pl.suit x.fst x.snd)) = Goal Tryz.prog [] ([]) K_suits.1 K_suits.2 (x) := by kernel_rfl

theorem vc_iModelOk (x : Pl.Sig × Pl.Mdl) : (Exists fun (x_1 : Pl.Sig) =>
 ((Is (syms x.fst) (syms x_1) ∧ True) ∧ True) ∧
 SmG x_1 ∧
 condP (!Pl.sigOk x_1) (Bool.false = Pl.modelOk x.fst x.snd)
 (Exists fun (x_2 : Pl.Mdl) =>
 ((Is (mrows x.snd) (mrows x_2) ∧ True) ∧ True) ∧
 SmM x_2 ∧
 condP (!Pl.mRight x_2) (Bool.false = Pl.modelOk x.fst x.snd)
 ((Exists fun (x_3 : Nat) =>
 (x_3 ≤ List.length x.snd ∧ Pl.modelOk x.fst x.snd = (List.drop x_3 x.snd).all (Pl.rowFits x.fst) ∧ Pl.mL Option.none x.snd = Bool.true) ∧
 ((0 : Nat) = (0 : Nat) ∧
 (0 : Nat) = (0 : Nat) ∧ Is (mrows x.snd) (mrows x.snd) ∧ (↑(List.length x.snd) : Int) = (↑(List.length x.snd) : Int) ∧ (0 : Int) = (↑x_3 : Int) ∧ True) ∧
 (Is (syms x.fst) (syms x.fst) ∧ True) ∧ (Is (mrows x.snd) (mrows x.snd) ∧ True) ∧ True) ∧
 ∀ (x_3 : Nat),
 x_3 ≤ List.length x.snd ∧ Pl.modelOk x.fst x.snd = (List.drop x_3 x.snd).all (Pl.rowFits x.fst) ∧ Pl.mL Option.none x.snd = Bool.true →
 condP (Decidable.decide ((↑x_3 : Int) < (↑(List.length x.snd) : Int)))
 (((0 : Int) ≤ (↑x_3 : Int) ∧ (↑x_3 : Int) < (↑(List.length x.snd) : Int)) ∧
 x_3 < List.length x.snd ∧
 Exists fun (x_4 : Pl.Sig × ByteArray) =>
 ((Is (syms x.fst) (syms x_4.fst) ∧ True) ∧ (List.getD x.snd x_3 Pl.dR).fst = x_4.snd ∧ True) ∧
 SmG x_4.fst ∧
 condP (!(Pl.find x_4.fst x_4.snd).isSome) (Bool.false = Pl.modelOk x.fst x.snd)
 (condP ((↑(Pl.symOf x_4.fst x_4.snd).snd.fst.length : Int) != (↑(List.getD x.snd x_3 Pl.dR).snd.fst.length : Int)) (Bool.false = Pl.modelOk x.fst x.snd)
 (Exists fun (x_5 : Pl.Rt × Int) =>
 (((List.getD x.snd x_3 Pl.dR).snd.snd.fst = x_5.fst.fst ∧ (List.getD x.snd x_3 Pl.dR).snd.snd.snd = x_5.fst.snd ∧ True) ∧
 (Pl.symOf x_4.fst x_4.snd).snd.snd = x_5.snd ∧ True) ∧
 True ∧
 condP (!Pl.suit x_5.fst x_5.snd) (Bool.false = Pl.modelOk x.fst x.snd)
 ((Exists fun (x_6 : Nat) =>
 (x_3 < List.length x.snd ∧
 x_6 ≤ (List.getD x.snd x_3 Pl.dR).snd.fst.length ∧
 (Pl.symOf x.fst (List.getD x.snd x_3 Pl.dR).fst).snd.fst.length = (List.getD x.snd x_3 Pl.dR).snd.fst.length ∧
 Pl.rowFits x.fst (List.getD x.snd x_3 Pl.dR) =
 Pl.fitL (List.drop x_6 (List.getD x.snd x_3 Pl.dR).snd.fst) (List.drop x_6 (Pl.symOf x.fst (List.getD x.snd x_3 Pl.dR).fst).snd.fst)) ∧
 ((0 : Nat) = (0 : Nat) ∧
 (0 : Nat) = (0 : Nat) ∧
 (0 : Nat) = (0 : Nat) ∧
 Is (mrows x.snd) (mrows x.snd) ∧
 (↑(List.length x.snd) : Int) = (↑(List.length x.snd) : Int) ∧
 (↑x_3 : Int) = (↑x_3 : Int) ∧
 Is (rats (List.getD x.snd x_3 Pl.dR).snd.fst) (rats (List.getD x.snd x_3 Pl.dR).snd.fst) ∧
 (↑(List.getD x.snd x_3 Pl.dR).snd.fst.length : Int) = (↑(List.getD x.snd x_3 Pl.dR).snd.fst.length : Int) ∧
 (0 : Int) = (↑x_6 : Int) ∧ True) ∧
 (Is (syms x.fst) (syms x.fst) ∧ True) ∧
 (Is (mrows x.snd) (mrows x.snd) ∧ True) ∧
 ((Pl.symOf x_4.fst x_4.snd).fst = (Pl.symOf x.fst (List.getD x.snd x_3 Pl.dR).fst).fst ∧
 Is (ints (Pl.symOf x_4.fst x_4.snd).snd.fst) (ints (Pl.symOf x.fst (List.getD x.snd x_3 Pl.dR).fst).snd.fst) ∧
 (Pl.symOf x_4.fst x_4.snd).snd.snd = (Pl.symOf x.fst (List.getD x.snd x_3 Pl.dR).fst).snd.snd ∧ True) ∧
 True) ∧
 ∀ (x_6 : Nat),
 x_3 < List.length x.snd ∧
 x_6 ≤ (List.getD x.snd x_3 Pl.dR).snd.fst.length ∧
 (Pl.symOf x.fst (List.getD x.snd x_3 Pl.dR).fst).snd.fst.length = (List.getD x.snd x_3 Pl.dR).snd.fst.length ∧
 Pl.rowFits x.fst (List.getD x.snd x_3 Pl.dR) =
 Pl.fitL (List.drop x_6 (List.getD x.snd x_3 Pl.dR).snd.fst) (List.drop x_6 (Pl.symOf x.fst (List.getD x.snd x_3 Pl.dR).fst).snd.fst) →
 condP (Decidable.decide ((↑x_6 : Int) < (↑(List.getD x.snd x_3 Pl.dR).snd.fst.length : Int)))
 (((0 : Int) ≤ (↑x_6 : Int) ∧ (↑x_6 : Int) < (↑(List.getD x.snd x_3 Pl.dR).snd.fst.length : Int)) ∧
 x_6 < (List.getD x.snd x_3 Pl.dR).snd.fst.length ∧
 ((0 : Int) ≤ (↑x_6 : Int) ∧ (↑x_6 : Int) < (↑(Pl.symOf x.fst (List.getD x.snd x_3 Pl.dR).fst).snd.fst.length : Int)) ∧
 x_6 < (Pl.symOf x.fst (List.getD x.snd x_3 Pl.dR).fst).snd.fst.length ∧
 Exists fun (x_7 : Pl.Rt × Int) =>
 ((((List.getD x.snd x_3 Pl.dR).snd.fst.getD x_6 Pl.dQ).fst = x_7.fst.fst ∧
 ((List.getD x.snd x_3 Pl.dR).snd.fst.getD x_6 Pl.dQ).snd = x_7.fst.snd ∧ True) ∧
 (Pl.symOf x.fst (List.getD x.snd x_3 Pl.dR).fst).snd.fst.getD x_6 (0 : Int) = x_7.snd ∧ True) ∧
 True ∧
 condP (!Pl.suit x_7.fst x_7.snd) (Bool.false = Pl.modelOk x.fst x.snd)
 (Exists fun (x' : Nat) =>
 (x_3 < List.length x.snd ∧
 x' ≤ (List.getD x.snd x_3 Pl.dR).snd.fst.length ∧
 (Pl.symOf x.fst (List.getD x.snd x_3 Pl.dR).fst).snd.fst.length = (List.getD x.snd x_3 Pl.dR).snd.fst.length ∧
 Pl.rowFits x.fst (List.getD x.snd x_3 Pl.dR) =
 Pl.fitL (List.drop x' (List.getD x.snd x_3 Pl.dR).snd.fst)
 (List.drop x' (Pl.symOf x.fst (List.getD x.snd x_3 Pl.dR).fst).snd.fst)) ∧
 (List.getD x.snd x_3 Pl.dR).snd.fst.length - x' < (List.getD x.snd x_3 Pl.dR).snd.fst.length - x_6 ∧
 ((0 : Nat) = (0 : Nat) ∧
 (0 : Nat) = (0 : Nat) ∧
 (0 : Nat) = (0 : Nat) ∧
 Is (mrows x.snd) (mrows x.snd) ∧
 (↑(List.length x.snd) : Int) = (↑(List.length x.snd) : Int) ∧
 (↑x_3 : Int) = (↑x_3 : Int) ∧
 Is (rats (List.getD x.snd x_3 Pl.dR).snd.fst) (rats (List.getD x.snd x_3 Pl.dR).snd.fst) ∧
 (↑(List.getD x.snd x_3 Pl.dR).snd.fst.length : Int) = (↑(List.getD x.snd x_3 Pl.dR).snd.fst.length : Int) ∧
 IntKind.i64.wrap ((↑x_6 : Int) + (1 : Int)) = (↑x' : Int) ∧ True) ∧
 (Is (syms x.fst) (syms x.fst) ∧ True) ∧
 (Is (mrows x.snd) (mrows x.snd) ∧ True) ∧
 ((Pl.symOf x.fst (List.getD x.snd x_3 Pl.dR).fst).fst = (Pl.symOf x.fst (List.getD x.snd x_3 Pl.dR).fst).fst ∧
 Is (ints (Pl.symOf x.fst (List.getD x.snd x_3 Pl.dR).fst).snd.fst)
 (ints (Pl.symOf x.fst (List.getD x.snd x_3 Pl.dR).fst).snd.fst) ∧
 (Pl.symOf x.fst (List.getD x.snd x_3 Pl.dR).fst).snd.snd =
 (Pl.symOf x.fst (List.getD x.snd x_3 Pl.dR).fst).snd.snd ∧
 True) ∧
 True))
 (Exists fun (x' : Nat) =>
 (x' ≤ List.length x.snd ∧ Pl.modelOk x.fst x.snd = (List.drop x' x.snd).all (Pl.rowFits x.fst) ∧ Pl.mL Option.none x.snd = Bool.true) ∧
 List.length x.snd - x' < List.length x.snd - x_3 ∧
 ((0 : Nat) = (0 : Nat) ∧
 (0 : Nat) = (0 : Nat) ∧
 Is (mrows x.snd) (mrows x.snd) ∧
 (↑(List.length x.snd) : Int) = (↑(List.length x.snd) : Int) ∧ IntKind.i64.wrap ((↑x_3 : Int) + (1 : Int)) = (↑x' : Int) ∧ True) ∧
 (Is (syms x.fst) (syms x.fst) ∧ True) ∧ (Is (mrows x.snd) (mrows x.snd) ∧ True) ∧ True)))))
 (Bool.true = Pl.modelOk x.fst x.snd)))) = Goal Tryz.prog [K_iSigOk, K_iModel, K_symbol, K_suits] (A_iModelOk x.1 x.2) K_iModelOk.1 K_iModelOk.2 (x) := by kernel_rfl

end Cg

/-
  What is left to show of each function's code, printed by a program: Model. No condition.
-/
set_option maxRecDepth 100000
set_option linter.unusedVariables false
namespace Cg
open Go Go.Proofs
theorem vc_l7Rats (x : List Pl.Rt × List Pl.Rt) : (condP ((↑x.fst.length : Int) != (↑x.snd.length : Int)) (Bool.false = Decidable.decide (x.fst = x.snd))
 ((Exists fun (x_1 : Nat) =>
 (x_1 ≤ x.fst.length ∧ x.fst.length = x.snd.length ∧ (x.fst = x.snd ↔ List.drop x_1 x.fst = List.drop x_1 x.snd)) ∧
 (Is (rats x.fst) (rats x.fst) ∧ Is (rats x.snd) (rats x.snd) ∧ (0 : Int) = (↑x_1 : Int) ∧ True) ∧ True) ∧
 ∀ (x_1 : Nat),
 x_1 ≤ x.fst.length ∧ x.fst.length = x.snd.length ∧ (x.fst = x.snd ↔ List.drop x_1 x.fst = List.drop x_1 x.snd) →
 condP (Decidable.decide ((↑x_1 : Int) < (↑x.fst.length : Int)))
 (((0 : Int) ≤ (↑x_1 : Int) ∧ (↑x_1 : Int) < (↑x.fst.length : Int)) ∧
 x_1 < x.fst.length ∧
 ((0 : Int) ≤ (↑x_1 : Int) ∧ (↑x_1 : Int) < (↑x.snd.length : Int)) ∧
 x_1 < x.snd.length ∧
 condP (!((x.fst.getD x_1 Pl.dQ).fst == (x.snd.getD x_1 Pl.dQ).fst && (x.fst.getD x_1 Pl.dQ).snd == (x.snd.getD x_1 Pl.dQ).snd)) (Bool.false = Decidable.decide (x.fst = x.snd))
 (Exists fun (x' : Nat) =>
 (x' ≤ x.fst.length ∧ x.fst.length = x.snd.length ∧ (x.fst = x.snd ↔ List.drop x' x.fst = List.drop x' x.snd)) ∧
 x.fst.length - x' < x.fst.length - x_1 ∧
 (Is (rats x.fst) (rats x.fst) ∧ Is (rats x.snd) (rats x.snd) ∧ IntKind.i64.wrap ((↑x_1 : Int) + (1 : Int)) = (↑x' : Int) ∧ True) ∧ True))
 (Bool.true = Decidable.decide (x.fst = x.snd)))) = Goal Tryz.prog [] (A_l7Rats x.1 x.2) K_l7Rats.1 K_l7Rats.2 (x) := by kernel_rfl

end Cg

/-
  What is left to show of each function's code, printed by a program: Tsort. No condition.
-/
set_option maxRecDepth 100000
set_option linter.unusedVariables false
namespace Cg
open Go Go.Proofs
theorem vc_l4Shape0 (x : Pl.TP) : (Bool.false = Pl.shape (0 : Nat) (Pl.Tree.mk x.fst x.snd)) = Goal Tryz.prog [K_sNameOk] ([]) (K_l4Shape 0).1 (K_l4Shape 0).2 (x) := by kernel_rfl

theorem vc_l4Shape (n : Nat) (x : Pl.TP) : (Exists fun (x_1 : ByteArray) =>
 (x.fst = x_1 ∧ True) ∧
 x_1.size ≤ (1048576 : Nat) ∧
 condP (!Pl.nameOk x_1) (Bool.false = Pl.shape (n + (1 : Nat)) (Pl.Tree.mk x.fst x.snd))
 (condP (Decidable.decide ((↑x.snd.length : Int) > (2 : Int))) (Bool.false = Pl.shape (n + (1 : Nat)) (Pl.Tree.mk x.fst x.snd))
 ((Exists fun (x_2 : Nat) =>
 (x_2 ≤ x.snd.length ∧ Pl.shape (n + (1 : Nat)) (Pl.Tree.mk x.fst x.snd) = (List.drop x_2 x.snd).all (Pl.shape n)) ∧
 ((↑(n + (1 : Nat)) : Int) = (↑(n + (1 : Nat)) : Int) ∧ (0 : Nat) = (0 : Nat) ∧ (0 : Int) = (↑x_2 : Int) ∧ True) ∧
 (x.fst = x.fst ∧ Is (terms x.snd) (terms x.snd) ∧ True) ∧ True) ∧
 ∀ (x_2 : Nat),
 x_2 ≤ x.snd.length ∧ Pl.shape (n + (1 : Nat)) (Pl.Tree.mk x.fst x.snd) = (List.drop x_2 x.snd).all (Pl.shape n) →
 condP (Decidable.decide ((↑x_2 : Int) < (↑x.snd.length : Int)))
 (((0 : Int) ≤ (↑x_2 : Int) ∧ (↑x_2 : Int) < (↑x.snd.length : Int)) ∧
 x_2 < x.snd.length ∧
 Exists fun (x_3 : Pl.TP) =>
 ((Pl.Tree.val (x.snd.getD x_2 Pl.dT) = x_3.fst ∧ Is (kidsT (x.snd.getD x_2 Pl.dT)) (terms x_3.snd) ∧ True) ∧
 IntKind.i64.wrap ((↑(n + (1 : Nat)) : Int) - (1 : Int)) = (↑n : Int) ∧ True) ∧
 (SmT (Pl.Tree.mk x_3.fst x_3.snd) ∧ n ≤ (10 : Nat)) ∧
 condP (!Pl.shape n (Pl.Tree.mk x_3.fst x_3.snd)) (Bool.false = Pl.shape (n + (1 : Nat)) (Pl.Tree.mk x.fst x.snd))
 (Exists fun (x' : Nat) =>
 (x' ≤ x.snd.length ∧ Pl.shape (n + (1 : Nat)) (Pl.Tree.mk x.fst x.snd) = (List.drop x' x.snd).all (Pl.shape n)) ∧
 x.snd.length - x' < x.snd.length - x_2 ∧
 ((↑(n + (1 : Nat)) : Int) = (↑(n + (1 : Nat)) : Int) ∧ (0 : Nat) = (0 : Nat) ∧ IntKind.i64.wrap ((↑x_2 : Int) + (1 : Int)) = (↑x' : Int) ∧ True) ∧
 (x.fst = x.fst ∧ Is (terms x.snd) (terms x.snd) ∧ True) ∧ True))
 (Bool.true = Pl.shape (n + (1 : Nat)) (Pl.Tree.mk x.fst x.snd))))) = Goal Tryz.prog [K_sNameOk, (K_l4Shape n)] (A_l4Shape n x.1 x.2) (K_l4Shape (n + 1)).1 (K_l4Shape (n + 1)).2 (x) := by kernel_rfl

theorem vc_l4Many0 (x : Pl.TP) : ((Exists fun (x_1 : Unit) =>
 True ∧ ((↑(0 : Nat) : Int) = (0 : Int) ∧ (0 : Nat) = (0 : Nat) ∧ (1 : Int) = (1 : Int) ∧ (0 : Int) = (0 : Int) ∧ True) ∧ (x.fst = x.fst ∧ Is (terms x.snd) (terms x.snd) ∧ True) ∧ True) ∧
 ∀ (x_1 : Unit),
 True →
 condP (Decidable.decide ((0 : Int) < (↑x.snd.length : Int))) ((1 : Int) = (↑(Pl.manyD (0 : Nat) (Pl.Tree.mk x.fst x.snd)) : Int))
 ((1 : Int) = (↑(Pl.manyD (0 : Nat) (Pl.Tree.mk x.fst x.snd)) : Int))) = Goal Tryz.prog [] (A_l4Many0 x.1 x.2) (K_l4Many 0).1 (K_l4Many 0).2 (x) := by kernel_rfl

theorem vc_l4Many (n : Nat) (x : Pl.TP) : ((Exists fun (x_1 : Nat) =>
 x_1 ≤ x.snd.length ∧
 ((↑(n + (1 : Nat)) : Int) = (↑(n + (1 : Nat)) : Int) ∧ (0 : Nat) = (0 : Nat) ∧ (1 : Int) = (↑((1 : Nat) + Pl.sumN (Pl.manyD n) (List.take x_1 x.snd)) : Int) ∧ (0 : Int) = (↑x_1 : Int) ∧ True) ∧
 (x.fst = x.fst ∧ Is (terms x.snd) (terms x.snd) ∧ True) ∧ True) ∧
 ∀ (x_1 : Nat),
 x_1 ≤ x.snd.length →
 condP (Decidable.decide ((↑x_1 : Int) < (↑x.snd.length : Int)))
 (condP (Decidable.decide ((↑(n + (1 : Nat)) : Int) > (0 : Int)))
 (((0 : Int) ≤ (↑x_1 : Int) ∧ (↑x_1 : Int) < (↑x.snd.length : Int)) ∧
 x_1 < x.snd.length ∧
 Exists fun (x_2 : Pl.TP) =>
 ((Pl.Tree.val (x.snd.getD x_1 Pl.dT) = x_2.fst ∧ Is (kidsT (x.snd.getD x_1 Pl.dT)) (terms x_2.snd) ∧ True) ∧
 IntKind.i64.wrap ((↑(n + (1 : Nat)) : Int) - (1 : Int)) = (↑n : Int) ∧ True) ∧
 (SmT (Pl.Tree.mk x_2.fst x_2.snd) ∧ n ≤ (10 : Nat)) ∧
 Exists fun (x' : Nat) =>
 x' ≤ x.snd.length ∧
 x.snd.length - x' < x.snd.length - x_1 ∧
 ((↑(n + (1 : Nat)) : Int) = (↑(n + (1 : Nat)) : Int) ∧
 (0 : Nat) = (0 : Nat) ∧
 IntKind.i64.wrap ((↑((1 : Nat) + Pl.sumN (Pl.manyD n) (List.take x_1 x.snd)) : Int) + (↑(Pl.manyD n (Pl.Tree.mk x_2.fst x_2.snd)) : Int)) =
 (↑((1 : Nat) + Pl.sumN (Pl.manyD n) (List.take x' x.snd)) : Int) ∧
 IntKind.i64.wrap ((↑x_1 : Int) + (1 : Int)) = (↑x' : Int) ∧ True) ∧
 (x.fst = x.fst ∧ Is (terms x.snd) (terms x.snd) ∧ True) ∧ True)
 ((↑((1 : Nat) + Pl.sumN (Pl.manyD n) (List.take x_1 x.snd)) : Int) = (↑(Pl.manyD (n + (1 : Nat)) (Pl.Tree.mk x.fst x.snd)) : Int)))
 ((↑((1 : Nat) + Pl.sumN (Pl.manyD n) (List.take x_1 x.snd)) : Int) = (↑(Pl.manyD (n + (1 : Nat)) (Pl.Tree.mk x.fst x.snd)) : Int))) = Goal Tryz.prog [(K_l4Many n)] (A_l4Many n x.1 x.2) (K_l4Many (n + 1)).1 (K_l4Many (n + 1)).2 (x) := by kernel_rfl

theorem vc_l4Right (a : ByteArray) (b : List Pl.Tm) : (Exists fun (x : Pl.TP) =>
 ((a = x.fst ∧ Is (terms b) (terms x.snd) ∧ True) ∧ (4 : Int) = (↑(4 : Nat) : Int) ∧ True) ∧
 (SmT (Pl.Tree.mk x.fst x.snd) ∧ (4 : Nat) ≤ (10 : Nat)) ∧
 condP (Pl.shape (4 : Nat) (Pl.Tree.mk x.fst x.snd))
 (Exists fun (x : Pl.TP) =>
 ((a = x.fst ∧ Is (terms b) (terms x.snd) ∧ True) ∧ (4 : Int) = (↑(4 : Nat) : Int) ∧ True) ∧
 (SmT (Pl.Tree.mk x.fst x.snd) ∧ (4 : Nat) ≤ (10 : Nat)) ∧ Decidable.decide ((↑(Pl.manyD (4 : Nat) (Pl.Tree.mk x.fst x.snd)) : Int) ≤ (12 : Int)) = Pl.right (Pl.Tree.mk a b))
 (Bool.false = Pl.right (Pl.Tree.mk a b))) = Goal Tryz.prog [(K_l4Shape 4), (K_l4Many 4)] ([]) K_l4Right.1 K_l4Right.2 ((a, b)) := by kernel_rfl

theorem vc_l4Find (s : Pl.Sig) (nm : ByteArray) : ((Exists fun (x : Nat) =>
 (x ≤ List.length s ∧ Pl.find s nm = Pl.find (List.drop x s) nm) ∧
 (nm = nm ∧ (0 : Nat) = (0 : Nat) ∧ (0 : Nat) = (0 : Nat) ∧ (0 : Int) = (↑x : Int) ∧ True) ∧
 (Is (syms s) (syms s) ∧ True) ∧
 ({ data := #[] } = ByteArray.empty ∧ Is (AV.lit (0 : Nat) (1 : Nat) fun (x x_1 : Nat) => AV.any) nilA ∧ (0 : Int) = (0 : Int) ∧ True) ∧ True) ∧
 ∀ (x : Nat),
 x ≤ List.length s ∧ Pl.find s nm = Pl.find (List.drop x s) nm →
 condP (Decidable.decide ((↑x : Int) < (↑(List.length s) : Int)))
 (((0 : Int) ≤ (↑x : Int) ∧ (↑x : Int) < (↑(List.length s) : Int)) ∧
 x < List.length s ∧
 condP ((List.getD s x Pl.dY).fst.toList == nm.toList)
 (((0 : Int) ≤ (↑x : Int) ∧ (↑x : Int) < (↑(List.length s) : Int)) ∧
 x < List.length s ∧
 ((List.getD s x Pl.dY).fst = (Pl.symOf s nm).fst ∧
 Is (ints (List.getD s x Pl.dY).snd.fst) (ints (Pl.symOf s nm).snd.fst) ∧ (List.getD s x Pl.dY).snd.snd = (Pl.symOf s nm).snd.snd ∧ True) ∧
 Bool.true = (Pl.find s nm).isSome ∧ True)
 (Exists fun (x' : Nat) =>
 (x' ≤ List.length s ∧ Pl.find s nm = Pl.find (List.drop x' s) nm) ∧
 List.length s - x' < List.length s - x ∧
 (nm = nm ∧ (0 : Nat) = (0 : Nat) ∧ (0 : Nat) = (0 : Nat) ∧ IntKind.i64.wrap ((↑x : Int) + (1 : Int)) = (↑x' : Int) ∧ True) ∧
 (Is (syms s) (syms s) ∧ True) ∧
 (ByteArray.empty = ByteArray.empty ∧ Is (AV.lit (0 : Nat) (1 : Nat) fun (x x_1 : Nat) => AV.any) nilA ∧ (0 : Int) = (0 : Int) ∧ True) ∧ True))
 (({ data := #[] } = (Pl.symOf s nm).fst ∧ Is (AV.lit (0 : Nat) (1 : Nat) fun (x x_1 : Nat) => AV.any) (ints (Pl.symOf s nm).snd.fst) ∧ (0 : Int) = (Pl.symOf s nm).snd.snd ∧ True) ∧
 Bool.false = (Pl.find s nm).isSome ∧ True)) = Goal Tryz.prog [] (A_l4Find s nm) K_l4Find.1 K_l4Find.2 ((s, nm)) := by kernel_rfl

theorem vc_symbol (s : Pl.Sig) (nm : ByteArray) : ((Exists fun (x : Nat) =>
 (x ≤ List.length s ∧ Pl.find s nm = Pl.find (List.drop x s) nm) ∧
 (nm = nm ∧ (0 : Nat) = (0 : Nat) ∧ (0 : Nat) = (0 : Nat) ∧ Is (syms s) (syms s) ∧ (↑(List.length s) : Int) = (↑(List.length s) : Int) ∧ (0 : Int) = (↑x : Int) ∧ True) ∧
 (Is (syms s) (syms s) ∧ True) ∧
 ({ data := #[] } = ByteArray.empty ∧ Is (AV.lit (0 : Nat) (1 : Nat) fun (x x_1 : Nat) => AV.any) nilA ∧ (0 : Int) = (0 : Int) ∧ True) ∧ True) ∧
 ∀ (x : Nat),
 x ≤ List.length s ∧ Pl.find s nm = Pl.find (List.drop x s) nm →
 condP (Decidable.decide ((↑x : Int) < (↑(List.length s) : Int)))
 (((0 : Int) ≤ (↑x : Int) ∧ (↑x : Int) < (↑(List.length s) : Int)) ∧
 x < List.length s ∧
 condP ((List.getD s x Pl.dY).fst.toList == nm.toList)
 (((List.getD s x Pl.dY).fst = (Pl.symOf s nm).fst ∧
 Is (ints (List.getD s x Pl.dY).snd.fst) (ints (Pl.symOf s nm).snd.fst) ∧ (List.getD s x Pl.dY).snd.snd = (Pl.symOf s nm).snd.snd ∧ True) ∧
 Bool.true = (Pl.find s nm).isSome ∧ True)
 (Exists fun (x' : Nat) =>
 (x' ≤ List.length s ∧ Pl.find s nm = Pl.find (List.drop x' s) nm) ∧
 List.length s - x' < List.length s - x ∧
 (nm = nm ∧
 (0 : Nat) = (0 : Nat) ∧
 (0 : Nat) = (0 : Nat) ∧
 Is (syms s) (syms s) ∧ (↑(List.length s) : Int) = (↑(List.length s) : Int) ∧ IntKind.i64.wrap ((↑x : Int) + (1 : Int)) = (↑x' : Int) ∧ True) ∧
 (Is (syms s) (syms s) ∧ True) ∧
 (ByteArray.empty = ByteArray.empty ∧ Is (AV.lit (0 : Nat) (1 : Nat) fun (x x_1 : Nat) => AV.any) nilA ∧ (0 : Int) = (0 : Int) ∧ True) ∧ True))
 (({ data := #[] } = (Pl.symOf s nm).fst ∧ Is (AV.lit (0 : Nat) (1 : Nat) fun (x x_1 : Nat) => AV.any) (ints (Pl.symOf s nm).snd.fst) ∧ (0 : Int) = (Pl.symOf s nm).snd.snd ∧ True) ∧
 Bool.false = (Pl.find s nm).isSome ∧ True)) = Goal Tryz.prog [] (A_symbol s nm) K_symbol.1 K_symbol.2 ((s, nm)) := by kernel_rfl

theorem vc_l4Of (n : Nat) (x : Pl.Sig × Pl.TP) : (Exists fun (x_1 : Pl.Sig × ByteArray) =>
 ((Is (syms x.fst) (syms x_1.fst) ∧ True) ∧ x.snd.fst = x_1.snd ∧ True) ∧
 SmG x_1.fst ∧
 condP (!(Pl.find x_1.fst x_1.snd).isSome) ((-1 : Int) = (Pl.sortT x.fst (Pl.Tree.mk x.snd.fst x.snd.snd)).getD (-1 : Int))
 (condP ((↑(Pl.symOf x_1.fst x_1.snd).snd.fst.length : Int) != (↑x.snd.snd.length : Int)) ((-1 : Int) = (Pl.sortT x.fst (Pl.Tree.mk x.snd.fst x.snd.snd)).getD (-1 : Int))
 ((Exists fun (x_2 : Nat) =>
 (x_2 ≤ x.snd.snd.length ∧
 (Pl.symOf x.fst x.snd.fst).snd.fst.length = x.snd.snd.length ∧
 (Pl.find x.fst x.snd.fst).isSome = Bool.true ∧
 Pl.sortL x.fst x.snd.snd (Pl.symOf x.fst x.snd.fst).snd.fst = Pl.sortL x.fst (List.drop x_2 x.snd.snd) (List.drop x_2 (Pl.symOf x.fst x.snd.fst).snd.fst)) ∧
 ((0 : Nat) = (0 : Nat) ∧ (0 : Nat) = (0 : Nat) ∧ (0 : Nat) = (0 : Nat) ∧ (0 : Int) = (↑x_2 : Int) ∧ True) ∧
 (Is (syms x.fst) (syms x.fst) ∧ True) ∧
 (x.snd.fst = x.snd.fst ∧ Is (terms x.snd.snd) (terms x.snd.snd) ∧ True) ∧
 ((Pl.symOf x_1.fst x_1.snd).fst = (Pl.symOf x.fst x.snd.fst).fst ∧
 Is (ints (Pl.symOf x_1.fst x_1.snd).snd.fst) (ints (Pl.symOf x.fst x.snd.fst).snd.fst) ∧
 (Pl.symOf x_1.fst x_1.snd).snd.snd = (Pl.symOf x.fst x.snd.fst).snd.snd ∧ True) ∧
 True) ∧
 ∀ (x_2 : Nat),
 x_2 ≤ x.snd.snd.length ∧
 (Pl.symOf x.fst x.snd.fst).snd.fst.length = x.snd.snd.length ∧
 (Pl.find x.fst x.snd.fst).isSome = Bool.true ∧
 Pl.sortL x.fst x.snd.snd (Pl.symOf x.fst x.snd.fst).snd.fst = Pl.sortL x.fst (List.drop x_2 x.snd.snd) (List.drop x_2 (Pl.symOf x.fst x.snd.fst).snd.fst) →
 condP (Decidable.decide ((↑x_2 : Int) < (↑x.snd.snd.length : Int)))
 (((0 : Int) ≤ (↑x_2 : Int) ∧ (↑x_2 : Int) < (↑x.snd.snd.length : Int)) ∧
 x_2 < x.snd.snd.length ∧
 Exists fun (x_3 : Pl.Sig × Pl.TP) =>
 ((Is (syms x.fst) (syms x_3.fst) ∧ True) ∧
 (Pl.Tree.val (x.snd.snd.getD x_2 Pl.dT) = x_3.snd.fst ∧ Is (kidsT (x.snd.snd.getD x_2 Pl.dT)) (terms x_3.snd.snd) ∧ True) ∧ True) ∧
 ((Pl.sigOk x_3.fst = Bool.true ∧ SmG x_3.fst ∧ SmT (Pl.Tree.mk x_3.snd.fst x_3.snd.snd)) ∧ Pl.manyL x_3.snd.snd < n) ∧
 ((0 : Int) ≤ (↑x_2 : Int) ∧ (↑x_2 : Int) < (↑(Pl.symOf x.fst x.snd.fst).snd.fst.length : Int)) ∧
 x_2 < (Pl.symOf x.fst x.snd.fst).snd.fst.length ∧
 condP ((Pl.sortT x_3.fst (Pl.Tree.mk x_3.snd.fst x_3.snd.snd)).getD (-1 : Int) != (Pl.symOf x.fst x.snd.fst).snd.fst.getD x_2 (0 : Int))
 ((-1 : Int) = (Pl.sortT x.fst (Pl.Tree.mk x.snd.fst x.snd.snd)).getD (-1 : Int))
 (Exists fun (x' : Nat) =>
 (x' ≤ x.snd.snd.length ∧
 (Pl.symOf x.fst x.snd.fst).snd.fst.length = x.snd.snd.length ∧
 (Pl.find x.fst x.snd.fst).isSome = Bool.true ∧
 Pl.sortL x.fst x.snd.snd (Pl.symOf x.fst x.snd.fst).snd.fst = Pl.sortL x.fst (List.drop x' x.snd.snd) (List.drop x' (Pl.symOf x.fst x.snd.fst).snd.fst)) ∧
 x.snd.snd.length - x' < x.snd.snd.length - x_2 ∧
 ((0 : Nat) = (0 : Nat) ∧ (0 : Nat) = (0 : Nat) ∧ (0 : Nat) = (0 : Nat) ∧ IntKind.i64.wrap ((↑x_2 : Int) + (1 : Int)) = (↑x' : Int) ∧ True) ∧
 (Is (syms x.fst) (syms x.fst) ∧ True) ∧
 (x.snd.fst = x.snd.fst ∧ Is (terms x.snd.snd) (terms x.snd.snd) ∧ True) ∧
 ((Pl.symOf x.fst x.snd.fst).fst = (Pl.symOf x.fst x.snd.fst).fst ∧
 Is (ints (Pl.symOf x.fst x.snd.fst).snd.fst) (ints (Pl.symOf x.fst x.snd.fst).snd.fst) ∧
 (Pl.symOf x.fst x.snd.fst).snd.snd = (Pl.symOf x.fst x.snd.fst).snd.snd ∧ True) ∧
 True))
 ((Pl.symOf x.fst x.snd.fst).snd.snd = (Pl.sortT x.fst (Pl.Tree.mk x.snd.fst x.snd.snd)).getD (-1 : Int))))) = Goal Tryz.prog [K_l4Find, (K_l4Of n)] (A_l4Of x.1 x.2.1 x.2.2) (K_l4Of (n + 1)).1 (K_l4Of (n + 1)).2 (x) := by kernel_rfl

theorem vc_sortOf (n : Nat) (x : Pl.Sig × Pl.TP) : (Exists fun (x_1 : Pl.Sig × ByteArray) =>
 ((Is (syms x.fst) (syms x_1.fst) ∧ True) ∧ x.snd.fst = x_1.snd ∧ True) ∧
 SmG x_1.fst ∧
 condP (!(Pl.find x_1.fst x_1.snd).isSome)
 ((0 : Int) = (Pl.sortT x.fst (Pl.Tree.mk x.snd.fst x.snd.snd)).getD (0 : Int) ∧ Bool.false = (Pl.sortT x.fst (Pl.Tree.mk x.snd.fst x.snd.snd)).isSome ∧ True)
 (condP ((↑(Pl.symOf x_1.fst x_1.snd).snd.fst.length : Int) != (↑x.snd.snd.length : Int))
 ((0 : Int) = (Pl.sortT x.fst (Pl.Tree.mk x.snd.fst x.snd.snd)).getD (0 : Int) ∧ Bool.false = (Pl.sortT x.fst (Pl.Tree.mk x.snd.fst x.snd.snd)).isSome ∧ True)
 ((Exists fun (x_2 : Nat) =>
 (x_2 ≤ x.snd.snd.length ∧
 (Pl.symOf x.fst x.snd.fst).snd.fst.length = x.snd.snd.length ∧
 (Pl.find x.fst x.snd.fst).isSome = Bool.true ∧
 Pl.sortL x.fst x.snd.snd (Pl.symOf x.fst x.snd.fst).snd.fst = Pl.sortL x.fst (List.drop x_2 x.snd.snd) (List.drop x_2 (Pl.symOf x.fst x.snd.fst).snd.fst)) ∧
 ((0 : Nat) = (0 : Nat) ∧
 (0 : Nat) = (0 : Nat) ∧
 (0 : Nat) = (0 : Nat) ∧ Is (terms x.snd.snd) (terms x.snd.snd) ∧ (↑x.snd.snd.length : Int) = (↑x.snd.snd.length : Int) ∧ (0 : Int) = (↑x_2 : Int) ∧ True) ∧
 (Is (syms x.fst) (syms x.fst) ∧ True) ∧
 (x.snd.fst = x.snd.fst ∧ Is (terms x.snd.snd) (terms x.snd.snd) ∧ True) ∧
 ((Pl.symOf x_1.fst x_1.snd).fst = (Pl.symOf x.fst x.snd.fst).fst ∧
 Is (ints (Pl.symOf x_1.fst x_1.snd).snd.fst) (ints (Pl.symOf x.fst x.snd.fst).snd.fst) ∧
 (Pl.symOf x_1.fst x_1.snd).snd.snd = (Pl.symOf x.fst x.snd.fst).snd.snd ∧ True) ∧
 True) ∧
 ∀ (x_2 : Nat),
 x_2 ≤ x.snd.snd.length ∧
 (Pl.symOf x.fst x.snd.fst).snd.fst.length = x.snd.snd.length ∧
 (Pl.find x.fst x.snd.fst).isSome = Bool.true ∧
 Pl.sortL x.fst x.snd.snd (Pl.symOf x.fst x.snd.fst).snd.fst = Pl.sortL x.fst (List.drop x_2 x.snd.snd) (List.drop x_2 (Pl.symOf x.fst x.snd.fst).snd.fst) →
 condP (Decidable.decide ((↑x_2 : Int) < (↑x.snd.snd.length : Int)))
 (((0 : Int) ≤ (↑x_2 : Int) ∧ (↑x_2 : Int) < (↑x.snd.snd.length : Int)) ∧
 x_2 < x.snd.snd.length ∧
 Exists fun (x_3 : Pl.Sig × Pl.TP) =>
 ((Is (syms x.fst) (syms x_3.fst) ∧ True) ∧
 (Pl.Tree.val (x.snd.snd.getD x_2 Pl.dT) = x_3.snd.fst ∧ Is (kidsT (x.snd.snd.getD x_2 Pl.dT)) (terms x_3.snd.snd) ∧ True) ∧ True) ∧
 ((Pl.sigOk x_3.fst = Bool.true ∧ SmG x_3.fst ∧ SmT (Pl.Tree.mk x_3.snd.fst x_3.snd.snd)) ∧ Pl.manyL x_3.snd.snd < n) ∧
 condP (!(Pl.sortT x_3.fst (Pl.Tree.mk x_3.snd.fst x_3.snd.snd)).isSome)
 ((0 : Int) = (Pl.sortT x.fst (Pl.Tree.mk x.snd.fst x.snd.snd)).getD (0 : Int) ∧ Bool.false = (Pl.sortT x.fst (Pl.Tree.mk x.snd.fst x.snd.snd)).isSome ∧ True)
 (((0 : Int) ≤ (↑x_2 : Int) ∧ (↑x_2 : Int) < (↑(Pl.symOf x.fst x.snd.fst).snd.fst.length : Int)) ∧
 x_2 < (Pl.symOf x.fst x.snd.fst).snd.fst.length ∧
 condP ((Pl.sortT x_3.fst (Pl.Tree.mk x_3.snd.fst x_3.snd.snd)).getD (0 : Int) != (Pl.symOf x.fst x.snd.fst).snd.fst.getD x_2 (0 : Int))
 ((0 : Int) = (Pl.sortT x.fst (Pl.Tree.mk x.snd.fst x.snd.snd)).getD (0 : Int) ∧ Bool.false = (Pl.sortT x.fst (Pl.Tree.mk x.snd.fst x.snd.snd)).isSome ∧ True)
 (Exists fun (x' : Nat) =>
 (x' ≤ x.snd.snd.length ∧
 (Pl.symOf x.fst x.snd.fst).snd.fst.length = x.snd.snd.length ∧
 (Pl.find x.fst x.snd.fst).isSome = Bool.true ∧
 Pl.sortL x.fst x.snd.snd (Pl.symOf x.fst x.snd.fst).snd.fst = Pl.sortL x.fst (List.drop x' x.snd.snd) (List.drop x' (Pl.symOf x.fst x.snd.fst).snd.fst)) ∧
 x.snd.snd.length - x' < x.snd.snd.length - x_2 ∧
 ((0 : Nat) = (0 : Nat) ∧
 (0 : Nat) = (0 : Nat) ∧
 (0 : Nat) = (0 : Nat) ∧
 Is (terms x.snd.snd) (terms x.snd.snd) ∧
 (↑x.snd.snd.length : Int) = (↑x.snd.snd.length : Int) ∧ IntKind.i64.wrap ((↑x_2 : Int) + (1 : Int)) = (↑x' : Int) ∧ True) ∧
 (Is (syms x.fst) (syms x.fst) ∧ True) ∧
 (x.snd.fst = x.snd.fst ∧ Is (terms x.snd.snd) (terms x.snd.snd) ∧ True) ∧
 ((Pl.symOf x.fst x.snd.fst).fst = (Pl.symOf x.fst x.snd.fst).fst ∧
 Is (ints (Pl.symOf x.fst x.snd.fst).snd.fst) (ints (Pl.symOf x.fst x.snd.fst).snd.fst) ∧
 (Pl.symOf x.fst x.snd.fst).snd.snd = (Pl.symOf x.fst x.snd.fst).snd.snd ∧ True) ∧
 True)))
 ((Pl.symOf x.fst x.snd.fst).snd.snd = (Pl.sortT x.fst (Pl.Tree.mk x.snd.fst x.snd.snd)).getD (0 : Int) ∧
 Bool.true = (Pl.sortT x.fst (Pl.Tree.mk x.snd.fst x.snd.snd)).isSome ∧ True)))) = Goal Tryz.prog [K_symbol, (K_sortOf n)] (A_sortOf x.1 x.2.1 x.2.2) (K_sortOf (n + 1)).1 (K_sortOf (n + 1)).2 (x) := by kernel_rfl

theorem vc_sTermSort (s : Pl.Sig) (a : ByteArray) (b : List Pl.Tm) : (Exists fun (x : Pl.Sig) =>
 ((Is (syms s) (syms x) ∧ True) ∧ True) ∧
 SmG x ∧
 condP (!Pl.sigOk x) ((0 : Int) = (Pl.termSort s (Pl.Tree.mk a b)).fst ∧ Bool.false = (Pl.termSort s (Pl.Tree.mk a b)).snd ∧ True)
 (Exists fun (x : Pl.TP) =>
 ((a = x.fst ∧ Is (terms b) (terms x.snd) ∧ True) ∧ True) ∧
 SmT (Pl.Tree.mk x.fst x.snd) ∧
 condP (!Pl.right (Pl.Tree.mk x.fst x.snd)) ((0 : Int) = (Pl.termSort s (Pl.Tree.mk a b)).fst ∧ Bool.false = (Pl.termSort s (Pl.Tree.mk a b)).snd ∧ True)
 (Exists fun (x : Pl.Sig × Pl.TP) =>
 ((Is (syms s) (syms x.fst) ∧ True) ∧ (a = x.snd.fst ∧ Is (terms b) (terms x.snd.snd) ∧ True) ∧ True) ∧
 (Pl.sigOk x.fst = Bool.true ∧ SmG x.fst ∧ SmT (Pl.Tree.mk x.snd.fst x.snd.snd)) ∧
 condP (Decidable.decide ((Pl.sortT x.fst (Pl.Tree.mk x.snd.fst x.snd.snd)).getD (-1 : Int) < (0 : Int)))
 ((0 : Int) = (Pl.termSort s (Pl.Tree.mk a b)).fst ∧ Bool.false = (Pl.termSort s (Pl.Tree.mk a b)).snd ∧ True)
 ((Pl.sortT x.fst (Pl.Tree.mk x.snd.fst x.snd.snd)).getD (-1 : Int) = (Pl.termSort s (Pl.Tree.mk a b)).fst ∧ Bool.true = (Pl.termSort s (Pl.Tree.mk a b)).snd ∧ True)))) = Goal Tryz.prog [K_sSigOk, K_l4Right, K_lOf] ([]) K_sTermSort.1 K_sTermSort.2 ((s, (a, b))) := by kernel_rfl

theorem vc_iTermSort (s : Pl.Sig) (a : ByteArray) (b : List Pl.Tm) : (Exists fun (x : Pl.Sig) =>
 ((Is (syms s) (syms x) ∧ True) ∧ True) ∧
 SmG x ∧
 condP (!Pl.sigOk x) ((0 : Int) = (Pl.termSort s (Pl.Tree.mk a b)).fst ∧ Bool.false = (Pl.termSort s (Pl.Tree.mk a b)).snd ∧ True)
 (Exists fun (x : Pl.TP) =>
 ((a = x.fst ∧ Is (terms b) (terms x.snd) ∧ True) ∧ True) ∧
 SmT (Pl.Tree.mk x.fst x.snd) ∧
 condP (!Pl.right (Pl.Tree.mk x.fst x.snd)) ((0 : Int) = (Pl.termSort s (Pl.Tree.mk a b)).fst ∧ Bool.false = (Pl.termSort s (Pl.Tree.mk a b)).snd ∧ True)
 (Exists fun (x : Pl.Sig × Pl.TP) =>
 ((Is (syms s) (syms x.fst) ∧ True) ∧ (a = x.snd.fst ∧ Is (terms b) (terms x.snd.snd) ∧ True) ∧ True) ∧
 (Pl.sigOk x.fst = Bool.true ∧ SmG x.fst ∧ SmT (Pl.Tree.mk x.snd.fst x.snd.snd)) ∧
 (Pl.sortT x.fst (Pl.Tree.mk x.snd.fst x.snd.snd)).getD (0 : Int) = (Pl.termSort s (Pl.Tree.mk a b)).fst ∧
 (Pl.sortT x.fst (Pl.Tree.mk x.snd.fst x.snd.snd)).isSome = (Pl.termSort s (Pl.Tree.mk a b)).snd ∧ True))) = Goal Tryz.prog [K_iSigOk, K_isTerm, K_sOf] ([]) K_iTermSort.1 K_iTermSort.2 ((s, (a, b))) := by kernel_rfl

theorem vc_termSize0 (x : Pl.TP) : (Exists fun (x_1 : ByteArray) =>
 (x.fst = x_1 ∧ True) ∧
 x_1.size ≤ (1048576 : Nat) ∧
 condP (!Pl.nameOk x_1) ((13 : Int) = (↑(Pl.tsz (0 : Nat) (Pl.Tree.mk x.fst x.snd)) : Int))
 (condP (Decidable.decide ((↑x.snd.length : Int) > (2 : Int))) ((13 : Int) = (↑(Pl.tsz (0 : Nat) (Pl.Tree.mk x.fst x.snd)) : Int))
 ((13 : Int) = (↑(Pl.tsz (0 : Nat) (Pl.Tree.mk x.fst x.snd)) : Int)))) = Goal Tryz.prog [K_iNameOk] ([]) (K_termSize 0).1 (K_termSize 0).2 (x) := by kernel_rfl

theorem vc_termSize (n : Nat) (x : Pl.TP) : (Exists fun (x_1 : ByteArray) =>
 (x.fst = x_1 ∧ True) ∧
 x_1.size ≤ (1048576 : Nat) ∧
 condP (!Pl.nameOk x_1) ((13 : Int) = (↑(Pl.tsz (n + (1 : Nat)) (Pl.Tree.mk x.fst x.snd)) : Int))
 (condP (Decidable.decide ((↑x.snd.length : Int) > (2 : Int))) ((13 : Int) = (↑(Pl.tsz (n + (1 : Nat)) (Pl.Tree.mk x.fst x.snd)) : Int))
 (condP (Decidable.decide ((5 : Int) - (↑(n + (1 : Nat)) : Int) > (4 : Int))) ((13 : Int) = (↑(Pl.tsz (n + (1 : Nat)) (Pl.Tree.mk x.fst x.snd)) : Int))
 ((Exists fun (x_2 : Nat) =>
 (x_2 ≤ x.snd.length ∧ x.snd.length ≤ (2 : Nat)) ∧
 ((5 : Int) - (↑(n + (1 : Nat)) : Int) = (5 : Int) - (↑(n + (1 : Nat)) : Int) ∧
 (0 : Nat) = (0 : Nat) ∧
 (1 : Int) = (↑((1 : Nat) + Pl.sumN (Pl.tsz n) (List.take x_2 x.snd)) : Int) ∧
 Is (terms x.snd) (terms x.snd) ∧ (↑x.snd.length : Int) = (↑x.snd.length : Int) ∧ (0 : Int) = (↑x_2 : Int) ∧ True) ∧
 (x.fst = x.fst ∧ Is (terms x.snd) (terms x.snd) ∧ True) ∧ True) ∧
 ∀ (x_2 : Nat),
 x_2 ≤ x.snd.length ∧ x.snd.length ≤ (2 : Nat) →
 condP (Decidable.decide ((↑x_2 : Int) < (↑x.snd.length : Int)))
 (((0 : Int) ≤ (↑x_2 : Int) ∧ (↑x_2 : Int) < (↑x.snd.length : Int)) ∧
 x_2 < x.snd.length ∧
 Exists fun (x_3 : Pl.TP) =>
 ((Pl.Tree.val (x.snd.getD x_2 Pl.dT) = x_3.fst ∧ Is (kidsT (x.snd.getD x_2 Pl.dT)) (terms x_3.snd) ∧ True) ∧
 IntKind.i64.wrap ((5 : Int) - (↑(n + (1 : Nat)) : Int) + (1 : Int)) = (5 : Int) - (↑n : Int) ∧ True) ∧
 (SmT (Pl.Tree.mk x_3.fst x_3.snd) ∧ n ≤ (4 : Nat)) ∧
 Exists fun (x' : Nat) =>
 (x' ≤ x.snd.length ∧ x.snd.length ≤ (2 : Nat)) ∧
 x.snd.length - x' < x.snd.length - x_2 ∧
 ((5 : Int) - (↑(n + (1 : Nat)) : Int) = (5 : Int) - (↑(n + (1 : Nat)) : Int) ∧
 (0 : Nat) = (0 : Nat) ∧
 IntKind.i64.wrap ((↑((1 : Nat) + Pl.sumN (Pl.tsz n) (List.take x_2 x.snd)) : Int) + (↑(Pl.tsz n (Pl.Tree.mk x_3.fst x_3.snd)) : Int)) =
 (↑((1 : Nat) + Pl.sumN (Pl.tsz n) (List.take x' x.snd)) : Int) ∧
 Is (terms x.snd) (terms x.snd) ∧
 (↑x.snd.length : Int) = (↑x.snd.length : Int) ∧ IntKind.i64.wrap ((↑x_2 : Int) + (1 : Int)) = (↑x' : Int) ∧ True) ∧
 (x.fst = x.fst ∧ Is (terms x.snd) (terms x.snd) ∧ True) ∧ True)
 ((↑((1 : Nat) + Pl.sumN (Pl.tsz n) (List.take x_2 x.snd)) : Int) = (↑(Pl.tsz (n + (1 : Nat)) (Pl.Tree.mk x.fst x.snd)) : Int)))))) = Goal Tryz.prog [K_iNameOk, (K_termSize n)] (A_termSize n x.1 x.2) (K_termSize (n + 1)).1 (K_termSize (n + 1)).2 (x) := by kernel_rfl

theorem vc_isTerm (a : ByteArray) (b : List Pl.Tm) : (Exists fun (x : Pl.TP) =>
 ((a = x.fst ∧ Is (terms b) (terms x.snd) ∧ True) ∧ (1 : Int) = (5 : Int) - (↑(4 : Nat) : Int) ∧ True) ∧
 (SmT (Pl.Tree.mk x.fst x.snd) ∧ (4 : Nat) ≤ (4 : Nat)) ∧ Decidable.decide ((↑(Pl.tsz (4 : Nat) (Pl.Tree.mk x.fst x.snd)) : Int) ≤ (12 : Int)) = Pl.right (Pl.Tree.mk a b)) = Goal Tryz.prog [(K_termSize 4)] ([]) K_isTerm.1 K_isTerm.2 ((a, b)) := by kernel_rfl

end Cg

/-
  What is left to show of each function's code, printed by a program: Sort. No condition.
-/
set_option maxRecDepth 100000
set_option linter.unusedVariables false
namespace Cg
open Go Go.Proofs
end Cg

/-
  What is left to show of each function's code, printed by a program: Sig. No condition.
-/
set_option maxRecDepth 100000
set_option linter.unusedVariables false
namespace Cg
open Go Go.Proofs
theorem vc_sNameOk (s : ByteArray) : ((Exists fun (x : Nat) => (x ≤ s.size ∧ (Pl.bs s).all Pl.lower = (List.drop x (Pl.bs s)).all Pl.lower) ∧ (s = s ∧ (0 : Int) = (↑x : Int) ∧ True) ∧ True) ∧
 ∀ (x : Nat),
 x ≤ s.size ∧ (Pl.bs s).all Pl.lower = (List.drop x (Pl.bs s)).all Pl.lower →
 condP (Decidable.decide ((↑x : Int) < (↑s.size : Int)))
 (((0 : Int) ≤ (↑x : Int) ∧ (↑x : Int) < (↑s.size : Int)) ∧
 condP (Decidable.decide ((↑(s.data.getD x (0 : UInt8)).toNat : Int) < (97 : Int))) (Bool.false = Pl.nameOk s)
 (((0 : Int) ≤ (↑x : Int) ∧ (↑x : Int) < (↑s.size : Int)) ∧
 condP (Decidable.decide ((↑(s.data.getD x (0 : UInt8)).toNat : Int) > (122 : Int))) (Bool.false = Pl.nameOk s)
 (Exists fun (x' : Nat) =>
 (x' ≤ s.size ∧ (Pl.bs s).all Pl.lower = (List.drop x' (Pl.bs s)).all Pl.lower) ∧
 s.size - x' < s.size - x ∧ (s = s ∧ IntKind.i64.wrap ((↑x : Int) + (1 : Int)) = (↑x' : Int) ∧ True) ∧ True)))
 (condP (Decidable.decide ((↑s.size : Int) ≥ (1 : Int))) (Decidable.decide ((↑s.size : Int) ≤ (2 : Int)) = Pl.nameOk s) (Bool.false = Pl.nameOk s))) = Goal Tryz.prog [] (A_sNameOk s) K_sNameOk.1 K_sNameOk.2 (s) := by kernel_rfl

theorem vc_iNameOk (s : ByteArray) : (Exists fun (x : Int × Int × Int) =>
 ((↑s.size : Int) = x.fst ∧ (1 : Int) = x.snd.fst ∧ (2 : Int) = x.snd.snd ∧ True) ∧
 True ∧
 condP (!Pl.withinI x.fst x.snd.fst x.snd.snd) (Bool.false = Pl.nameOk s)
 ((Exists fun (x : Nat) => (x ≤ s.size ∧ (Pl.bs s).all Pl.lower = (List.drop x (Pl.bs s)).all Pl.lower) ∧ (s = s ∧ (↑s.size : Int) = (↑s.size : Int) ∧ (0 : Int) = (↑x : Int) ∧ True) ∧ True) ∧
 ∀ (x : Nat),
 x ≤ s.size ∧ (Pl.bs s).all Pl.lower = (List.drop x (Pl.bs s)).all Pl.lower →
 condP (Decidable.decide ((↑x : Int) < (↑s.size : Int)))
 (((0 : Int) ≤ (↑x : Int) ∧ (↑x : Int) < (↑s.size : Int)) ∧
 condP (Decidable.decide ((↑(s.data.getD x (0 : UInt8)).toNat : Int) < (97 : Int))) (Bool.false = Pl.nameOk s)
 (((0 : Int) ≤ (↑x : Int) ∧ (↑x : Int) < (↑s.size : Int)) ∧
 condP (Decidable.decide ((↑(s.data.getD x (0 : UInt8)).toNat : Int) > (122 : Int))) (Bool.false = Pl.nameOk s)
 (Exists fun (x' : Nat) =>
 (x' ≤ s.size ∧ (Pl.bs s).all Pl.lower = (List.drop x' (Pl.bs s)).all Pl.lower) ∧
 s.size - x' < s.size - x ∧ (s = s ∧ (↑s.size : Int) = (↑s.size : Int) ∧ IntKind.i64.wrap ((↑x : Int) + (1 : Int)) = (↑x' : Int) ∧ True) ∧ True)))
 (Bool.true = Pl.nameOk s))) = Goal Tryz.prog [K_within] (A_iNameOk s) K_iNameOk.1 K_iNameOk.2 (s) := by kernel_rfl

theorem vc_l4Sort (x : Int) : (condP (x == (0 : Int)) (Bool.true = Pl.isSort x) ((x == (1 : Int)) = Pl.isSort x)) = Goal Tryz.prog [] ([]) K_l4Sort.1 K_l4Sort.2 (x) := by kernel_rfl

theorem vc_isSort (x : Int) : (condP (x == (0 : Int)) (Bool.true = Pl.isSort x) ((x == (1 : Int)) = Pl.isSort x)) = Goal Tryz.prog [] ([]) K_isSort.1 K_isSort.2 (x) := by kernel_rfl

theorem vc_symok1 (x : Int) : (Exists fun (x_1 : Int) => (x = x_1 ∧ True) ∧ True ∧ (!Pl.isSort x_1) = !Pl.isSort x) = Goal Tryz.prog [K_isSort] ([]) K_symok1.1 K_symok1.2 (x) := by kernel_rfl

theorem vc_IndexSort (l : List Int) : ((Exists fun (x : Nat) =>
 (x ≤ l.length ∧
 Pl.idx (fun (y : Int) => !Pl.isSort y) l =
 if Pl.idx (fun (y : Int) => !Pl.isSort y) (List.drop x l) < (0 : Int) then (-1 : Int) else Pl.idx (fun (y : Int) => !Pl.isSort y) (List.drop x l) + (↑x : Int)) ∧
 (Is (ints l) (ints l) ∧ True ∧ (↑l.length : Int) = (↑l.length : Int) ∧ (0 : Int) = (↑x : Int) ∧ True) ∧ True) ∧
 ∀ (x : Nat),
 (x ≤ l.length ∧
 Pl.idx (fun (y : Int) => !Pl.isSort y) l =
 if Pl.idx (fun (y : Int) => !Pl.isSort y) (List.drop x l) < (0 : Int) then (-1 : Int) else Pl.idx (fun (y : Int) => !Pl.isSort y) (List.drop x l) + (↑x : Int)) →
 condP (Decidable.decide ((↑x : Int) < (↑l.length : Int)))
 (((0 : Int) ≤ (↑x : Int) ∧ (↑x : Int) < (↑l.length : Int)) ∧
 x < l.length ∧
 Exists fun (x_1 : Int) =>
 (l.getD x (0 : Int) = x_1 ∧ True) ∧
 True ∧
 condP (!Pl.isSort x_1) ((↑x : Int) = Pl.idx (fun (y : Int) => !Pl.isSort y) l)
 (Exists fun (x' : Nat) =>
 (x' ≤ l.length ∧
 Pl.idx (fun (y : Int) => !Pl.isSort y) l =
 if Pl.idx (fun (y : Int) => !Pl.isSort y) (List.drop x' l) < (0 : Int) then (-1 : Int) else Pl.idx (fun (y : Int) => !Pl.isSort y) (List.drop x' l) + (↑x' : Int)) ∧
 l.length - x' < l.length - x ∧
 (Is (ints l) (ints l) ∧ True ∧ (↑l.length : Int) = (↑l.length : Int) ∧ IntKind.i64.wrap ((↑x : Int) + (1 : Int)) = (↑x' : Int) ∧ True) ∧ True))
 ((-1 : Int) = Pl.idx (fun (y : Int) => !Pl.isSort y) l)) = Goal Tryz.prog [K_symok1] (A_IndexSort l) K_IndexSort.1 K_IndexSort.2 (l) := by kernel_rfl

theorem vc_ContainsSort (l : List Int) : (Exists fun (x : List Int) => (Is (ints l) (ints x) ∧ True ∧ True) ∧ Sz x ∧ Decidable.decide (Pl.idx (fun (y : Int) => !Pl.isSort y) x ≥ (0 : Int)) = l.any fun (y : Int) => !Pl.isSort y) = Goal Tryz.prog [K_IndexSort] ([]) K_ContainsSort.1 K_ContainsSort.2 (l) := by kernel_rfl

theorem vc_symok (x : Pl.Sym) : (Exists fun (x_1 : ByteArray) =>
 (x.fst = x_1 ∧ True) ∧
 x_1.size ≤ (1048576 : Nat) ∧
 condP (Pl.nameOk x_1)
 (condP (Decidable.decide ((↑x.snd.fst.length : Int) ≤ (2 : Int)))
 (Exists fun (x_2 : Int) =>
 (x.snd.snd = x_2 ∧ True) ∧
 True ∧
 condP (Pl.isSort x_2) (Exists fun (x_3 : List Int) => (Is (ints x.snd.fst) (ints x_3) ∧ True ∧ True) ∧ Sz x_3 ∧ (!x_3.any fun (y : Int) => !Pl.isSort y) = Pl.symOk x)
 (Bool.false = Pl.symOk x))
 (Bool.false = Pl.symOk x))
 (Bool.false = Pl.symOk x)) = Goal Tryz.prog [K_iNameOk, K_isSort, K_ContainsSort] ([]) K_symok.1 K_symok.2 (x) := by kernel_rfl

theorem vc_sSigOk (s : Pl.Sig) : ((Exists fun (x : Nat) =>
 (x ≤ List.length s ∧ Pl.sigL Option.none s = Pl.sigL (Pl.prevS s x) (List.drop x s)) ∧ ((0 : Nat) = (0 : Nat) ∧ (0 : Int) = (↑x : Int) ∧ True) ∧ (Is (syms s) (syms s) ∧ True) ∧ True) ∧
 ∀ (x : Nat),
 x ≤ List.length s ∧ Pl.sigL Option.none s = Pl.sigL (Pl.prevS s x) (List.drop x s) →
 condP (Decidable.decide ((↑x : Int) < (↑(List.length s) : Int)))
 (((0 : Int) ≤ (↑x : Int) ∧ (↑x : Int) < (↑(List.length s) : Int)) ∧
 x < List.length s ∧
 Exists fun (x_1 : ByteArray) =>
 ((List.getD s x Pl.dY).fst = x_1 ∧ True) ∧
 x_1.size ≤ (1048576 : Nat) ∧
 condP (!Pl.nameOk x_1) (Bool.false = Pl.sigOk s)
 (condP (Decidable.decide ((↑(List.getD s x Pl.dY).snd.fst.length : Int) > (2 : Int))) (Bool.false = Pl.sigOk s)
 (Exists fun (x_2 : Int) =>
 ((List.getD s x Pl.dY).snd.snd = x_2 ∧ True) ∧
 True ∧
 condP (!Pl.isSort x_2) (Bool.false = Pl.sigOk s)
 (condP (Decidable.decide ((↑x : Int) > (0 : Int)))
 (((0 : Int) ≤ IntKind.i64.wrap ((↑x : Int) - (1 : Int)) ∧ IntKind.i64.wrap ((↑x : Int) - (1 : Int)) < (↑(List.length s) : Int)) ∧
 (IntKind.i64.wrap ((↑x : Int) - (1 : Int))).toNat < List.length s ∧
 condP (!Op.bytesLess (List.getD s (IntKind.i64.wrap ((↑x : Int) - (1 : Int))).toNat Pl.dY).fst.toList (List.getD s x Pl.dY).fst.toList)
 (Bool.false = Pl.sigOk s)
 ((Exists fun (x_3 : Nat) =>
 (x < List.length s ∧
 x_3 ≤ (List.getD s x Pl.dY).snd.fst.length ∧
 (List.getD s x Pl.dY).snd.fst.all Pl.isSort = (List.drop x_3 (List.getD s x Pl.dY).snd.fst).all Pl.isSort ∧
 (Pl.nameOk (List.getD s x Pl.dY).fst && Decidable.decide ((List.getD s x Pl.dY).snd.fst.length ≤ (2 : Nat)) &&
 Pl.isSort (List.getD s x Pl.dY).snd.snd) =
 Bool.true ∧
 Pl.before (Pl.prevS s x) (List.getD s x Pl.dY).fst = Bool.true) ∧
 ((0 : Nat) = (0 : Nat) ∧ (↑x : Int) = (↑x : Int) ∧ (0 : Nat) = (0 : Nat) ∧ (0 : Int) = (↑x_3 : Int) ∧ True) ∧
 (Is (syms s) (syms s) ∧ True) ∧
 ((List.getD s x Pl.dY).fst = (List.getD s x Pl.dY).fst ∧
 Is (ints (List.getD s x Pl.dY).snd.fst) (ints (List.getD s x Pl.dY).snd.fst) ∧
 (List.getD s x Pl.dY).snd.snd = (List.getD s x Pl.dY).snd.snd ∧ True) ∧
 True) ∧
 ∀ (x_3 : Nat),
 x < List.length s ∧
 x_3 ≤ (List.getD s x Pl.dY).snd.fst.length ∧
 (List.getD s x Pl.dY).snd.fst.all Pl.isSort = (List.drop x_3 (List.getD s x Pl.dY).snd.fst).all Pl.isSort ∧
 (Pl.nameOk (List.getD s x Pl.dY).fst && Decidable.decide ((List.getD s x Pl.dY).snd.fst.length ≤ (2 : Nat)) &&
 Pl.isSort (List.getD s x Pl.dY).snd.snd) =
 Bool.true ∧
 Pl.before (Pl.prevS s x) (List.getD s x Pl.dY).fst = Bool.true →
 condP (Decidable.decide ((↑x_3 : Int) < (↑(List.getD s x Pl.dY).snd.fst.length : Int)))
 (((0 : Int) ≤ (↑x_3 : Int) ∧ (↑x_3 : Int) < (↑(List.getD s x Pl.dY).snd.fst.length : Int)) ∧
 x_3 < (List.getD s x Pl.dY).snd.fst.length ∧
 Exists fun (x_4 : Int) =>
 ((List.getD s x Pl.dY).snd.fst.getD x_3 (0 : Int) = x_4 ∧ True) ∧
 True ∧
 condP (!Pl.isSort x_4) (Bool.false = Pl.sigOk s)
 (Exists fun (x' : Nat) =>
 (x < List.length s ∧
 x' ≤ (List.getD s x Pl.dY).snd.fst.length ∧
 (List.getD s x Pl.dY).snd.fst.all Pl.isSort = (List.drop x' (List.getD s x Pl.dY).snd.fst).all Pl.isSort ∧
 (Pl.nameOk (List.getD s x Pl.dY).fst && Decidable.decide ((List.getD s x Pl.dY).snd.fst.length ≤ (2 : Nat)) &&
 Pl.isSort (List.getD s x Pl.dY).snd.snd) =
 Bool.true ∧
 Pl.before (Pl.prevS s x) (List.getD s x Pl.dY).fst = Bool.true) ∧
 (List.getD s x Pl.dY).snd.fst.length - x' < (List.getD s x Pl.dY).snd.fst.length - x_3 ∧
 ((0 : Nat) = (0 : Nat) ∧
 (↑x : Int) = (↑x : Int) ∧ (0 : Nat) = (0 : Nat) ∧ IntKind.i64.wrap ((↑x_3 : Int) + (1 : Int)) = (↑x' : Int) ∧ True) ∧
 (Is (syms s) (syms s) ∧ True) ∧
 ((List.getD s x Pl.dY).fst = (List.getD s x Pl.dY).fst ∧
 Is (ints (List.getD s x Pl.dY).snd.fst) (ints (List.getD s x Pl.dY).snd.fst) ∧
 (List.getD s x Pl.dY).snd.snd = (List.getD s x Pl.dY).snd.snd ∧ True) ∧
 True))
 (Exists fun (x' : Nat) =>
 (x' ≤ List.length s ∧ Pl.sigL Option.none s = Pl.sigL (Pl.prevS s x') (List.drop x' s)) ∧
 List.length s - x' < List.length s - x ∧
 ((0 : Nat) = (0 : Nat) ∧ IntKind.i64.wrap ((↑x : Int) + (1 : Int)) = (↑x' : Int) ∧ True) ∧ (Is (syms s) (syms s) ∧ True) ∧ True)))
 ((Exists fun (x_3 : Nat) =>
 (x < List.length s ∧
 x_3 ≤ (List.getD s x Pl.dY).snd.fst.length ∧
 (List.getD s x Pl.dY).snd.fst.all Pl.isSort = (List.drop x_3 (List.getD s x Pl.dY).snd.fst).all Pl.isSort ∧
 (Pl.nameOk (List.getD s x Pl.dY).fst && Decidable.decide ((List.getD s x Pl.dY).snd.fst.length ≤ (2 : Nat)) && Pl.isSort (List.getD s x Pl.dY).snd.snd) =
 Bool.true ∧
 Pl.before (Pl.prevS s x) (List.getD s x Pl.dY).fst = Bool.true) ∧
 ((0 : Nat) = (0 : Nat) ∧ (↑x : Int) = (↑x : Int) ∧ (0 : Nat) = (0 : Nat) ∧ (0 : Int) = (↑x_3 : Int) ∧ True) ∧
 (Is (syms s) (syms s) ∧ True) ∧
 ((List.getD s x Pl.dY).fst = (List.getD s x Pl.dY).fst ∧
 Is (ints (List.getD s x Pl.dY).snd.fst) (ints (List.getD s x Pl.dY).snd.fst) ∧
 (List.getD s x Pl.dY).snd.snd = (List.getD s x Pl.dY).snd.snd ∧ True) ∧
 True) ∧
 ∀ (x_3 : Nat),
 x < List.length s ∧
 x_3 ≤ (List.getD s x Pl.dY).snd.fst.length ∧
 (List.getD s x Pl.dY).snd.fst.all Pl.isSort = (List.drop x_3 (List.getD s x Pl.dY).snd.fst).all Pl.isSort ∧
 (Pl.nameOk (List.getD s x Pl.dY).fst && Decidable.decide ((List.getD s x Pl.dY).snd.fst.length ≤ (2 : Nat)) && Pl.isSort (List.getD s x Pl.dY).snd.snd) =
 Bool.true ∧
 Pl.before (Pl.prevS s x) (List.getD s x Pl.dY).fst = Bool.true →
 condP (Decidable.decide ((↑x_3 : Int) < (↑(List.getD s x Pl.dY).snd.fst.length : Int)))
 (((0 : Int) ≤ (↑x_3 : Int) ∧ (↑x_3 : Int) < (↑(List.getD s x Pl.dY).snd.fst.length : Int)) ∧
 x_3 < (List.getD s x Pl.dY).snd.fst.length ∧
 Exists fun (x_4 : Int) =>
 ((List.getD s x Pl.dY).snd.fst.getD x_3 (0 : Int) = x_4 ∧ True) ∧
 True ∧
 condP (!Pl.isSort x_4) (Bool.false = Pl.sigOk s)
 (Exists fun (x' : Nat) =>
 (x < List.length s ∧
 x' ≤ (List.getD s x Pl.dY).snd.fst.length ∧
 (List.getD s x Pl.dY).snd.fst.all Pl.isSort = (List.drop x' (List.getD s x Pl.dY).snd.fst).all Pl.isSort ∧
 (Pl.nameOk (List.getD s x Pl.dY).fst && Decidable.decide ((List.getD s x Pl.dY).snd.fst.length ≤ (2 : Nat)) &&
 Pl.isSort (List.getD s x Pl.dY).snd.snd) =
 Bool.true ∧
 Pl.before (Pl.prevS s x) (List.getD s x Pl.dY).fst = Bool.true) ∧
 (List.getD s x Pl.dY).snd.fst.length - x' < (List.getD s x Pl.dY).snd.fst.length - x_3 ∧
 ((0 : Nat) = (0 : Nat) ∧
 (↑x : Int) = (↑x : Int) ∧ (0 : Nat) = (0 : Nat) ∧ IntKind.i64.wrap ((↑x_3 : Int) + (1 : Int)) = (↑x' : Int) ∧ True) ∧
 (Is (syms s) (syms s) ∧ True) ∧
 ((List.getD s x Pl.dY).fst = (List.getD s x Pl.dY).fst ∧
 Is (ints (List.getD s x Pl.dY).snd.fst) (ints (List.getD s x Pl.dY).snd.fst) ∧
 (List.getD s x Pl.dY).snd.snd = (List.getD s x Pl.dY).snd.snd ∧ True) ∧
 True))
 (Exists fun (x' : Nat) =>
 (x' ≤ List.length s ∧ Pl.sigL Option.none s = Pl.sigL (Pl.prevS s x') (List.drop x' s)) ∧
 List.length s - x' < List.length s - x ∧
 ((0 : Nat) = (0 : Nat) ∧ IntKind.i64.wrap ((↑x : Int) + (1 : Int)) = (↑x' : Int) ∧ True) ∧ (Is (syms s) (syms s) ∧ True) ∧ True))))))
 (Decidable.decide ((↑(List.length s) : Int) ≤ (7 : Int)) = Pl.sigOk s)) = Goal Tryz.prog [K_sNameOk, K_l4Sort] (A_sSigOk s) K_sSigOk.1 K_sSigOk.2 (s) := by kernel_rfl

theorem vc_iSigOk (s : Pl.Sig) : ((Exists fun (x : Nat) =>
 (x ≤ List.length s ∧ Pl.sigL Option.none s = Pl.sigL (Pl.prevS s x) (List.drop x s)) ∧
 ((0 : Nat) = (0 : Nat) ∧ Is (syms s) (syms s) ∧ (↑(List.length s) : Int) = (↑(List.length s) : Int) ∧ (0 : Int) = (↑x : Int) ∧ True) ∧ (Is (syms s) (syms s) ∧ True) ∧ True) ∧
 ∀ (x : Nat),
 x ≤ List.length s ∧ Pl.sigL Option.none s = Pl.sigL (Pl.prevS s x) (List.drop x s) →
 condP (Decidable.decide ((↑x : Int) < (↑(List.length s) : Int)))
 (((0 : Int) ≤ (↑x : Int) ∧ (↑x : Int) < (↑(List.length s) : Int)) ∧
 x < List.length s ∧
 Exists fun (x_1 : Pl.Sym) =>
 (((List.getD s x Pl.dY).fst = x_1.fst ∧ Is (ints (List.getD s x Pl.dY).snd.fst) (ints x_1.snd.fst) ∧ (List.getD s x Pl.dY).snd.snd = x_1.snd.snd ∧ True) ∧ True) ∧
 (x_1.fst.size ≤ (1048576 : Nat) ∧ Sz x_1.snd.fst) ∧
 condP (!Pl.symOk x_1) (Bool.false = Pl.sigOk s)
 (condP (Decidable.decide ((↑x : Int) > (0 : Int)))
 (((0 : Int) ≤ IntKind.i64.wrap ((↑x : Int) - (1 : Int)) ∧ IntKind.i64.wrap ((↑x : Int) - (1 : Int)) < (↑(List.length s) : Int)) ∧
 (IntKind.i64.wrap ((↑x : Int) - (1 : Int))).toNat < List.length s ∧
 condP (!Op.bytesLess (List.getD s (IntKind.i64.wrap ((↑x : Int) - (1 : Int))).toNat Pl.dY).fst.toList (List.getD s x Pl.dY).fst.toList) (Bool.false = Pl.sigOk s)
 (Exists fun (x' : Nat) =>
 (x' ≤ List.length s ∧ Pl.sigL Option.none s = Pl.sigL (Pl.prevS s x') (List.drop x' s)) ∧
 List.length s - x' < List.length s - x ∧
 ((0 : Nat) = (0 : Nat) ∧
 Is (syms s) (syms s) ∧ (↑(List.length s) : Int) = (↑(List.length s) : Int) ∧ IntKind.i64.wrap ((↑x : Int) + (1 : Int)) = (↑x' : Int) ∧ True) ∧
 (Is (syms s) (syms s) ∧ True) ∧ True))
 (Exists fun (x' : Nat) =>
 (x' ≤ List.length s ∧ Pl.sigL Option.none s = Pl.sigL (Pl.prevS s x') (List.drop x' s)) ∧
 List.length s - x' < List.length s - x ∧
 ((0 : Nat) = (0 : Nat) ∧
 Is (syms s) (syms s) ∧ (↑(List.length s) : Int) = (↑(List.length s) : Int) ∧ IntKind.i64.wrap ((↑x : Int) + (1 : Int)) = (↑x' : Int) ∧ True) ∧
 (Is (syms s) (syms s) ∧ True) ∧ True)))
 (Decidable.decide ((↑(List.length s) : Int) ≤ (7 : Int)) = Pl.sigOk s)) = Goal Tryz.prog [K_symok] (A_iSigOk s) K_iSigOk.1 K_iSigOk.2 (s) := by kernel_rfl

end Cg

/-
  What is left to show of each function's code, printed by a program: Rows. No condition.
-/
set_option maxRecDepth 100000
set_option linter.unusedVariables false
namespace Cg
open Go Go.Proofs
end Cg

/-
  What is left to show of each function's code, printed by a program: Clause. No condition.
-/
set_option maxRecDepth 100000
set_option linter.unusedVariables false
namespace Cg
open Go Go.Proofs
theorem vc_within (x y z : Int) : (condP (Decidable.decide (y ≤ x)) (Decidable.decide (x ≤ z) = Pl.withinI x y z) (Bool.false = Pl.withinI x y z)) = Goal Tryz.prog [] ([]) K_within.1 K_within.2 ((x, y, z)) := by kernel_rfl

end Cg

/-
  The codes' contracts: clauses. No condition.
-/
set_option linter.unusedVariables false
set_option linter.unusedSimpArgs false
set_option maxRecDepth 100000
namespace Cg
open Go Go.Proofs

theorem hm : Tryz.prog.follows .mixedOrders = true := by kernel_rfl

theorem k_within : SoundC Tryz.prog K_within.1 K_within.2 := sound_of hm CtxOK.nil (fun _ => []) (by kernel_rfl) fun ((x, y, z) : Int × Int × Int) _ => cast (vc_within x y z) (by
  simp [Pl.withinI]
  omega)

theorem eq_step {α : Type} [DecidableEq α] (d : α) {l m : List α} {k : Nat} (hk : k < l.length) (hm : l.length = m.length) (he : l = m ↔ l.drop k = m.drop k) :
    (¬ l.getD k d = m.getD k d → ¬ l = m) ∧ (l.getD k d = m.getD k d → (l = m ↔ l.drop (k + 1) = m.drop (k + 1))) := by
  rw [drop_get d hk, drop_get (l := m) d (by omega)] at he
  exact ⟨fun h e => h (by have := he.1 e; injection this), fun h => by rw [he, h]; simp⟩

end Cg

/-
  The plain law of clauses: both ways to tell one give the same. No condition.
-/
set_option linter.unusedVariables false
set_option linter.unusedSimpArgs false
namespace Pl
open Go

end Pl


/-
  The codes' contracts: rows of rows, values of marks. No condition.
-/
set_option linter.unusedVariables false
set_option linter.unusedSimpArgs false
set_option maxRecDepth 100000
namespace Cg
open Go Go.Proofs

theorem idx_lt {α : Type} (p : α → Bool) : ∀ l : List α, -1 ≤ Pl.idx p l
  | [] => by simp [Pl.idx]
  | x :: l => by have := idx_lt p l; simp only [Pl.idx]; split <;> (try split) <;> omega

/-- One round of slices.IndexFunc. -/
theorem idx_step {α : Type} (d : α) (p : α → Bool) {l : List α} {k : Nat} (hk : k < l.length) (he : Pl.idx p l = if Pl.idx p (l.drop k) < 0 then -1 else Pl.idx p (l.drop k) + k) :
    (p (l.getD k d) = true → (k : Int) = Pl.idx p l) ∧ (p (l.getD k d) = false → Pl.idx p l = if Pl.idx p (l.drop (k + 1)) < 0 then -1 else Pl.idx p (l.drop (k + 1)) + ((k + 1 : Nat) : Int)) := by
  rw [drop_get d hk] at he
  have := idx_lt p (l.drop (k + 1))
  refine ⟨fun h => ?_, fun h => ?_⟩
  · rw [he]; simp only [Pl.idx, h, if_true]; simp
  · rw [he]
    simp only [Pl.idx, h, Bool.false_eq_true, if_false]
    split
    · simp
    · split <;> omega
theorem idx_init {α : Type} (p : α → Bool) (l : List α) : Pl.idx p l = if Pl.idx p (l.drop 0) < 0 then -1 else Pl.idx p (l.drop 0) + ((0 : Nat) : Int) := by
  have := idx_lt p l
  simp only [List.drop_zero]
  split <;> omega
theorem idx_end {α : Type} (p : α → Bool) {l : List α} {k : Nat} (hk : l.length ≤ k) (he : Pl.idx p l = if Pl.idx p (l.drop k) < 0 then -1 else Pl.idx p (l.drop k) + k) : -1 = Pl.idx p l := by
  rw [he, drop_end (by omega)]; simp [Pl.idx]

theorem idx_any {α : Type} (p : α → Bool) : ∀ l : List α, decide (Pl.idx p l ≥ 0) = l.any p
  | [] => by simp [Pl.idx]
  | x :: l => by
    have h := idx_any p l
    have := idx_lt p l
    simp only [Pl.idx, List.any_cons]
    by_cases hp : p x = true
    · simp [hp]
    · simp only [hp, Bool.false_eq_true, if_false, Bool.false_or]
      rw [← h]
      by_cases hq : Pl.idx p l < 0
      · rw [if_pos hq, decide_eq_false (by omega), decide_eq_false (by omega)]
      · rw [if_neg hq, decide_eq_true (by omega), decide_eq_true (by omega)]

end Cg

/-
  The codes' contracts: words. No condition.
-/
set_option linter.unusedVariables false
set_option linter.unusedSimpArgs false
set_option maxRecDepth 100000
namespace Pl
open Go Cg
theorem bs_len (s : ByteArray) : (bs s).length = s.size := rfl
theorem data_getD (s : ByteArray) (k : Nat) : s.data.getD k 0 = (bs s).getD k 0 := by
  unfold bs
  rw [Array.getD_eq_getD_getElem?, List.getD_eq_getElem?_getD, Array.getElem?_toList]
theorem data_getE (s : ByteArray) (k : Nat) : s.data[k]?.getD 0 = (bs s).getD k 0 := by
  rw [← data_getD, Array.getD_eq_getD_getElem?]
theorem sumN_take {α : Type} (f : α → Nat) (d : α) {l : List α} {k : Nat} (h : k < l.length) : sumN f (l.take (k + 1)) = sumN f (l.take k) + f (l.getD k d) := by
  rw [List.take_succ_eq_append_getElem h]
  have : ∀ (m : List α) (x : α), sumN f (m ++ [x]) = sumN f m + f x := by
    intro m x
    induction m with
    | nil => simp [sumN]
    | cons y r ih => simp only [List.cons_append, sumN, ih]; omega
  rw [this]; simp [h]
theorem sumN_take_le {α : Type} (f : α → Nat) (l : List α) (k : Nat) : sumN f (l.take k) ≤ sumN f l := by
  induction l generalizing k with
  | nil => simp
  | cons x r ih =>
    cases k with
    | zero => simp [sumN]
    | succ k => simp only [List.take_succ_cons, sumN]; have := ih k; omega
theorem sumN_mem {α : Type} (f : α → Nat) {x : α} : ∀ {l : List α}, x ∈ l → f x ≤ sumN f l
  | y :: r, h => by
    simp only [sumN]
    cases List.mem_cons.1 h with
    | inl e => subst e; omega
    | inr e => have := sumN_mem f e; omega
end Pl
namespace Cg
open Go Go.Proofs Pl

theorem SmG.mem {s : Sig} (h : SmG s) {x : Sym} (hx : x ∈ s) : x.1.size ≤ 1048576 ∧ x.2.1.length ≤ 1048576 := by
  have h1 : s.length + sumN costY s ≤ 1048576 := h
  have h2 := sumN_mem costY hx
  have h3 : costY x = x.1.size + x.2.1.length := rfl
  omega
theorem SmG.len {s : Sig} (h : SmG s) : s.length ≤ 1048576 := by
  have h1 : s.length + sumN costY s ≤ 1048576 := h
  omega

theorem name_step {s : ByteArray} {k : Nat} (hk : k < s.size) (he : (bs s).all lower = ((bs s).drop k).all lower) :
    ((((bs s).getD k 0).toNat : Int) < 97 → nameOk s = false) ∧ (122 < (((bs s).getD k 0).toNat : Int) → nameOk s = false) ∧ (97 ≤ (((bs s).getD k 0).toNat : Int) → (((bs s).getD k 0).toNat : Int) ≤ 122 → (bs s).all lower = ((bs s).drop (k + 1)).all lower) := by
  rw [drop_get 0 (by rw [bs_len]; exact hk), List.all_cons] at he
  have no : lower ((bs s).getD k 0) = false → nameOk s = false := fun h => by
    unfold nameOk; rw [he, h]; simp
  refine ⟨fun h => no (by simp [lower, h, -List.getD_eq_getElem?_getD]), fun h => no (by simp [lower, h, -List.getD_eq_getElem?_getD]), fun h1 h2 => ?_⟩
  have : lower ((bs s).getD k 0) = true := by
    unfold lower; rw [decide_eq_false (by omega), decide_eq_false (by omega)]; rfl
  rw [he, this, Bool.true_and]

theorem k_sNameOk : SoundC Tryz.prog K_sNameOk.1 K_sNameOk.2 := sound_of hm CtxOK.nil A_sNameOk (by kernel_rfl) fun (s : ByteArray) hl => cast (vc_sNameOk s) (by
  replace hl : s.size ≤ 1048576 := hl
  simp [-List.getD_eq_getElem?_getD, -List.mem_cons, -Bool.forall_bool, -Bool.exists_bool, and_assoc, peta, tl_inj, ex_1, ex_2, ex_3, ex_4, ex_5, ex_6, ex_7, ex_8, ex_9, ey_2, ey_3, ey_4, ey_5, ey_6, ey_7, ey_8, ey_9]
  simp only [data_getE]
  refine ⟨⟨0, by simp, by simp, rfl⟩, fun k hk he => ⟨fun hlt => ?_, fun hge => ?_⟩⟩
  · obtain ⟨h1, h2, h3⟩ := name_step hlt he
    exact ⟨hlt, h1, fun h4 => ⟨hlt, h2, fun h5 => ⟨k + 1, hlt, h3 h4 h5, by omega, wrap_small (by omega) (by omega)⟩⟩⟩
  · rw [drop_end (by rw [bs_len]; omega)] at he
    unfold nameOk
    rw [he]
    refine ⟨fun h => ?_, fun h => ?_⟩
    · rw [decide_eq_true (by omega : 1 ≤ s.size)]; simp; omega
    · rw [decide_eq_false (by omega : ¬ 1 ≤ s.size)]; rfl)

theorem k_iNameOk : SoundC Tryz.prog K_iNameOk.1 K_iNameOk.2 := sound_of hm (CtxOK.nil.and k_within) A_iNameOk (by kernel_rfl) fun (s : ByteArray) hl => cast (vc_iNameOk s) (by
  replace hl : s.size ≤ 1048576 := hl
  simp [-List.getD_eq_getElem?_getD, -List.mem_cons, -Bool.forall_bool, -Bool.exists_bool, and_assoc, peta, tl_inj, ex_1, ex_2, ex_3, ex_4, ex_5, ex_6, ex_7, ex_8, ex_9, ey_2, ey_3, ey_4, ey_5, ey_6, ey_7, ey_8, ey_9]
  simp only [data_getE]
  refine ⟨fun h => ?_, fun h => ?_⟩
  · simp only [withinI, Bool.and_eq_false_iff, decide_eq_false_iff_not] at h
    unfold nameOk
    rcases h with h | h
    · rw [decide_eq_false (by omega : ¬ 1 ≤ s.size)]; rfl
    · rw [decide_eq_false (by omega : ¬ s.size ≤ 2)]; simp
  · simp only [withinI, Bool.and_eq_true, decide_eq_true_eq] at h
    refine ⟨⟨0, by simp, by simp, rfl⟩, fun k hk he => ⟨fun hlt => ?_, fun hge => ?_⟩⟩
    · obtain ⟨h1, h2, h3⟩ := name_step hlt he
      exact ⟨hlt, h1, fun h4 => ⟨hlt, h2, fun h5 => ⟨k + 1, hlt, h3 h4 h5, by omega, wrap_small (by omega) (by omega)⟩⟩⟩
    · rw [drop_end (by rw [bs_len]; omega)] at he
      unfold nameOk
      rw [he, decide_eq_true (by omega : 1 ≤ s.size), decide_eq_true (by omega : s.size ≤ 2)]
      rfl)

theorem k_l4Sort : SoundC Tryz.prog K_l4Sort.1 K_l4Sort.2 := sound_of hm CtxOK.nil (fun _ => []) (by kernel_rfl) fun (x : Int) _ => cast (vc_l4Sort x) (by
  simp [-List.getD_eq_getElem?_getD, -List.mem_cons, -Bool.forall_bool, -Bool.exists_bool, and_assoc, peta, tl_inj, ex_1, ex_2, ex_3, ex_4, ex_5, ex_6, ex_7, ex_8, ex_9, ey_2, ey_3, ey_4, ey_5, ey_6, ey_7, ey_8, ey_9]
  exact ⟨fun h => by simp [isSort, h], fun h => by simp [isSort, h, Bool.beq_eq_decide_eq]⟩)
theorem k_isSort : SoundC Tryz.prog K_isSort.1 K_isSort.2 := sound_of hm CtxOK.nil (fun _ => []) (by kernel_rfl) fun (x : Int) _ => cast (vc_isSort x) (by
  simp [-List.getD_eq_getElem?_getD, -List.mem_cons, -Bool.forall_bool, -Bool.exists_bool, and_assoc, peta, tl_inj, ex_1, ex_2, ex_3, ex_4, ex_5, ex_6, ex_7, ex_8, ex_9, ey_2, ey_3, ey_4, ey_5, ey_6, ey_7, ey_8, ey_9]
  exact ⟨fun h => by simp [isSort, h], fun h => by simp [isSort, h, Bool.beq_eq_decide_eq]⟩)
theorem k_symok1 : SoundC Tryz.prog K_symok1.1 K_symok1.2 := sound_of hm (CtxOK.nil.and k_isSort) (fun _ => []) (by kernel_rfl) fun (x : Int) _ => cast (vc_symok1 x) (by
  simp [-List.getD_eq_getElem?_getD, -List.mem_cons, -Bool.forall_bool, -Bool.exists_bool, and_assoc, peta, tl_inj, ex_1, ex_2, ex_3, ex_4, ex_5, ex_6, ex_7, ex_8, ex_9, ey_2, ey_3, ey_4, ey_5, ey_6, ey_7, ey_8, ey_9])
theorem k_IndexSort : SoundC Tryz.prog K_IndexSort.1 K_IndexSort.2 := sound_of hm (CtxOK.nil.and k_symok1) A_IndexSort (by kernel_rfl) fun (l : List Int) hl => cast (vc_IndexSort l) (by
  replace hl : Sz l := hl
  simp [-List.getD_eq_getElem?_getD, -List.mem_cons, -Bool.forall_bool, -Bool.exists_bool, and_assoc, peta, tl_inj, ex_1, ex_2, ex_3, ex_4, ex_5, ex_6, ex_7, ex_8, ex_9, ey_2, ey_3, ey_4, ey_5, ey_6, ey_7, ey_8, ey_9]
  exact ⟨⟨0, by simp, idx_init _ _, rfl⟩, fun k hk he => ⟨fun hlt => ⟨hlt, fun h => (idx_step 0 _ hlt he).1 (by simp [h, -List.getD_eq_getElem?_getD]), fun h => ⟨k + 1, hlt, (idx_step 0 _ hlt he).2 (by simp [h, -List.getD_eq_getElem?_getD]), by omega, wrap_succ hlt hl⟩⟩, fun hge => idx_end _ hge he⟩⟩)
theorem k_ContainsSort : SoundC Tryz.prog K_ContainsSort.1 K_ContainsSort.2 := sound_of hm (CtxOK.nil.and k_IndexSort) (fun _ => []) (by kernel_rfl) fun (l : List Int) hl => cast (vc_ContainsSort l) (by
  replace hl : Sz l := hl
  simp only [idx_any]
  simp [-List.getD_eq_getElem?_getD, -List.mem_cons, -Bool.forall_bool, -Bool.exists_bool, and_assoc, peta, tl_inj, ex_1, ex_2, ex_3, ex_4, ex_5, ex_6, ex_7, ex_8, ex_9, ey_2, ey_3, ey_4, ey_5, ey_6, ey_7, ey_8, ey_9]
  exact hl)
theorem all_any {α : Type} (p : α → Bool) (l : List α) : l.all p = !(l.any fun y => !p y) := by
  induction l with
  | nil => rfl
  | cons x r ih => simp only [List.all_cons, List.any_cons, ih]; cases p x <;> rfl

theorem k_symok : SoundC Tryz.prog K_symok.1 K_symok.2 := sound_of hm (((CtxOK.nil.and k_ContainsSort).and k_isSort).and k_iNameOk) (fun _ => []) (by kernel_rfl) fun (x : Sym) hl => cast (vc_symok x) (by
  obtain ⟨h1, h2⟩ : x.1.size ≤ 1048576 ∧ Sz x.2.1 := hl
  simp [-List.getD_eq_getElem?_getD, -List.mem_cons, -Bool.forall_bool, -Bool.exists_bool, and_assoc, peta, tl_inj, ex_1, ex_2, ex_3, ex_4, ex_5, ex_6, ex_7, ex_8, ex_9, ey_2, ey_3, ey_4, ey_5, ey_6, ey_7, ey_8, ey_9]
  refine ⟨h1, fun h3 => ⟨fun h4 => ⟨fun h5 => ⟨h2, ?_⟩, fun h5 => by simp [symOk, h5]⟩, fun h4 => ?_⟩, fun h3 => by simp [symOk, h3]⟩
  · unfold symOk
    rw [h3, h5, decide_eq_true (by omega : x.2.1.length ≤ 2), all_any]; simp
  · unfold symOk
    rw [decide_eq_false (by omega : ¬ x.2.1.length ≤ 2)]; simp)

theorem sig_step {s : Sig} {k : Nat} (hk : k < s.length) (he : sigL none s = sigL (prevS s k) (s.drop k)) :
    (symOk (s.getD k dY) = false → sigOk s = false) ∧ (before (prevS s k) (s.getD k dY).1 = false → sigOk s = false) ∧ (symOk (s.getD k dY) = true → before (prevS s k) (s.getD k dY).1 = true → sigL none s = sigL (prevS s (k + 1)) (s.drop (k + 1))) := by
  rw [drop_get dY hk] at he
  simp only [sigL] at he
  refine ⟨fun h => ?_, fun h => ?_, fun h1 h2 => ?_⟩
  · unfold sigOk; rw [he, h]; simp
  · unfold sigOk; rw [he, h]; simp
  · rw [he, h1, h2]
    simp [prevS, -List.getD_eq_getElem?_getD]
theorem sig_end {s : Sig} {k : Nat} (hk : s.length ≤ k) (he : sigL none s = sigL (prevS s k) (s.drop k)) : sigOk s = decide ((s.length : Int) ≤ 7) := by
  rw [drop_end (by omega)] at he
  unfold sigOk
  rw [he]
  simp only [sigL, Bool.true_and]
  congr 1
  simp only [eq_iff_iff]; omega

theorem sSigOk_inner {s : Sig} (hl : SmG s) {k : Nat} (hlt : k < s.length) (he : sigL none s = sigL (prevS s k) (s.drop k)) (h1 : nameOk (s.getD k dY).1 = true) (h2 : (s.getD k dY).2.1.length ≤ 2) (h3 : isSort (s.getD k dY).2.2 = true) (h4 : before (prevS s k) (s.getD k dY).1 = true) :
    k < s.length ∧
      (∃ x_1, x_1 ≤ (s.getD k dY).2.1.length ∧ (s.getD k dY).2.1.all isSort = ((s.getD k dY).2.1.drop x_1).all isSort ∧ nameOk (s.getD k dY).1 = true ∧ (s.getD k dY).2.1.length ≤ 2 ∧ isSort (s.getD k dY).2.2 = true ∧ before (prevS s k) (s.getD k dY).1 = true ∧ (0 : Int) = (x_1 : Int)) ∧
      ∀ (j : Nat), k < s.length → j ≤ (s.getD k dY).2.1.length → (s.getD k dY).2.1.all isSort = ((s.getD k dY).2.1.drop j).all isSort → nameOk (s.getD k dY).1 = true → (s.getD k dY).2.1.length ≤ 2 → isSort (s.getD k dY).2.2 = true → before (prevS s k) (s.getD k dY).1 = true →
        (j < (s.getD k dY).2.1.length → j < (s.getD k dY).2.1.length ∧ (isSort ((s.getD k dY).2.1.getD j 0) = false → sigOk s = false) ∧
          (isSort ((s.getD k dY).2.1.getD j 0) = true → k < s.length ∧ ∃ x_1, x_1 ≤ (s.getD k dY).2.1.length ∧ (s.getD k dY).2.1.all isSort = ((s.getD k dY).2.1.drop x_1).all isSort ∧ nameOk (s.getD k dY).1 = true ∧ (s.getD k dY).2.1.length ≤ 2 ∧ isSort (s.getD k dY).2.2 = true ∧ before (prevS s k) (s.getD k dY).1 = true ∧ (s.getD k dY).2.1.length - x_1 < (s.getD k dY).2.1.length - j ∧ IntKind.i64.wrap ((j : Int) + 1) = (x_1 : Int))) ∧
        ((s.getD k dY).2.1.length ≤ j → ∃ x', x' ≤ s.length ∧ sigL none s = sigL (prevS s x') (s.drop x') ∧ s.length - x' < s.length - k ∧ IntKind.i64.wrap ((k : Int) + 1) = (x' : Int)) := by
  have hlen := hl.len
  obtain ⟨e1, e2, e3⟩ := sig_step hlt he
  refine ⟨hlt, ⟨0, by simp, by simp, h1, h2, h3, h4, rfl⟩, fun j _ hj hj2 _ _ _ _ => ⟨fun hjl => ⟨hjl, fun h => ?_, fun h => ⟨hlt, j + 1, hjl, ?_, h1, h2, h3, h4, by omega, wrap_small (by omega) (by omega)⟩⟩, fun hge => ⟨k + 1, hlt, e3 ?_ h4, by omega, wrap_small (by omega) (by omega)⟩⟩⟩
  · rw [drop_get 0 hjl, List.all_cons, h, Bool.false_and] at hj2
    exact e1 (by unfold symOk; rw [hj2]; simp)
  · rw [hj2, drop_get 0 hjl, List.all_cons, h, Bool.true_and]
  · rw [drop_end (by omega)] at hj2
    unfold symOk
    rw [hj2, h1, h3, decide_eq_true h2]; rfl

theorem k_sSigOk : SoundC Tryz.prog K_sSigOk.1 K_sSigOk.2 := sound_of hm ((CtxOK.nil.and k_l4Sort).and k_sNameOk) A_sSigOk (by kernel_rfl) fun (s : Sig) hl => cast (vc_sSigOk s) (by
  replace hl : SmG s := hl
  simp [-List.getD_eq_getElem?_getD, -List.mem_cons, -Bool.forall_bool, -Bool.exists_bool, and_assoc, peta, tl_inj, ex_1, ex_2, ex_3, ex_4, ex_5, ex_6, ex_7, ex_8, ex_9, ey_2, ey_3, ey_4, ey_5, ey_6, ey_7, ey_8, ey_9]
  have hlen := hl.len
  refine ⟨⟨0, by simp, by simp [prevS], rfl⟩, fun k hk he => ⟨fun hlt => ?_, fun hge => (sig_end hge he).symm⟩⟩
  obtain ⟨m1, m2⟩ := hl.mem (getD_mem dY hlt)
  obtain ⟨e1, e2, e3⟩ := sig_step hlt he
  have inner : nameOk (s.getD k dY).1 = true → (s.getD k dY).2.1.length ≤ 2 → isSort (s.getD k dY).2.2 = true → before (prevS s k) (s.getD k dY).1 = true → _ := sSigOk_inner hl hlt he
  refine ⟨hlt, m1, fun h => e1 (by unfold symOk; rw [h]; rfl), fun h1 => ⟨fun h => e1 ?_, fun h2 => ⟨fun h => e1 (by unfold symOk; rw [h]; simp), fun h3 => ⟨fun h4 => ?_, fun h4 => inner h1 (by omega) h3 (by rw [h4]; rfl)⟩⟩⟩⟩
  · unfold symOk; rw [decide_eq_false (by omega : ¬ (s.getD k dY).2.1.length ≤ 2)]; simp
  · rw [wrap_small (by omega) (by omega)]
    have e : ((k : Int) - 1).toNat = k - 1 := by omega
    rw [e]
    have hb : before (prevS s k) (s.getD k dY).1 = Op.bytesLess (s.getD (k - 1) dY).1.toList (s.getD k dY).1.toList := by
      unfold prevS; rw [if_neg (by omega)]; rfl
    exact ⟨by omega, by omega, by omega, fun h => e2 (by rw [hb, h]), fun h => inner h1 (by omega) h3 (by rw [hb, h])⟩)

theorem k_iSigOk : SoundC Tryz.prog K_iSigOk.1 K_iSigOk.2 := sound_of hm (CtxOK.nil.and k_symok) A_iSigOk (by kernel_rfl) fun (s : Sig) hl => cast (vc_iSigOk s) (by
  replace hl : SmG s := hl
  simp [-List.getD_eq_getElem?_getD, -List.mem_cons, -Bool.forall_bool, -Bool.exists_bool, and_assoc, peta, tl_inj, ex_1, ex_2, ex_3, ex_4, ex_5, ex_6, ex_7, ex_8, ex_9, ey_2, ey_3, ey_4, ey_5, ey_6, ey_7, ey_8, ey_9]
  have hlen := hl.len
  refine ⟨⟨0, by simp, by simp [prevS], rfl⟩, fun k hk he => ⟨fun hlt => ?_, fun hge => (sig_end hge he).symm⟩⟩
  obtain ⟨m1, m2⟩ := hl.mem (getD_mem dY hlt)
  obtain ⟨e1, e2, e3⟩ := sig_step hlt he
  refine ⟨hlt, m1, by omega, e1, fun h1 => ⟨fun h4 => ?_, fun h4 => ⟨k + 1, hlt, e3 h1 (by rw [h4]; rfl), by omega, wrap_small (by omega) (by omega)⟩⟩⟩
  rw [wrap_small (by omega) (by omega)]
  have e : ((k : Int) - 1).toNat = k - 1 := by omega
  rw [e]
  have hb : before (prevS s k) (s.getD k dY).1 = Op.bytesLess (s.getD (k - 1) dY).1.toList (s.getD k dY).1.toList := by
    unfold prevS; rw [if_neg (by omega)]; rfl
  exact ⟨by omega, by omega, by omega, fun h => e2 (by rw [hb, h]), fun h => ⟨k + 1, hlt, e3 h1 (by rw [hb, h]), by omega, wrap_small (by omega) (by omega)⟩⟩)

end Cg

/-
  The codes' contracts: terms. No condition.
-/
set_option linter.unusedVariables false
set_option linter.unusedSimpArgs false
set_option maxRecDepth 100000
set_option maxHeartbeats 4000000
namespace Pl
open Go Cg
theorem manyL_kids {l : List Tm} {t : Tm} (h : t ∈ l) : manyL t.kids < manyL l := by
  have := many_mem h
  have := t.many_eq
  omega
end Pl
namespace Cg
open Go Go.Proofs Pl
theorem SmTs.mem {l : List Tm} (h : SmTs l) {t : Tm} (ht : t ∈ l) : SmT t := by
  have := costT_mem ht
  have h1 : l.length + costTs l ≤ 1048576 := h
  show costT t ≤ 1048576
  omega
theorem SmTs.len {l : List Tm} (h : SmTs l) : l.length ≤ 1048576 := by
  have h1 : l.length + costTs l ≤ 1048576 := h
  omega
theorem SmT.kids {v : ByteArray} {ks : List Tm} (h : SmT (.mk v ks)) : SmTs ks := by
  have h1 : costT (.mk v ks) ≤ 1048576 := h
  rw [costT_eq] at h1
  simp only [Tree.val, Tree.kids] at h1
  show ks.length + costTs ks ≤ 1048576
  omega

end Cg

/-
  The codes' contracts: the sorts of terms. No condition.
-/
set_option linter.unusedVariables false
set_option linter.unusedSimpArgs false
set_option maxRecDepth 100000
set_option maxHeartbeats 1000000
namespace Pl
open Go Cg
theorem sumN_congr {α : Type} {f g : α → Nat} : ∀ {l : List α}, (∀ x ∈ l, f x = g x) → sumN f l = sumN g l
  | [], _ => rfl
  | x :: r, h => by simp only [sumN]; rw [h x List.mem_cons_self, sumN_congr fun y hy => h y (List.mem_cons_of_mem _ hy)]
theorem sumN_le {α : Type} {f : α → Nat} {b : Nat} : ∀ {l : List α}, (∀ x ∈ l, f x ≤ b) → sumN f l ≤ l.length * b
  | [], _ => Nat.zero_le _
  | x :: r, h => by
    simp only [sumN, List.length_cons, Nat.add_mul, Nat.one_mul]
    have := h x List.mem_cons_self
    have := sumN_le (l := r) fun y hy => h y (List.mem_cons_of_mem _ hy)
    omega
theorem tsz_shape : ∀ (n : Nat) (t : Tm), (shape n t = true → tsz n t = manyD n t) ∧ (shape n t = false → 13 ≤ tsz n t)
  | 0, t => ⟨fun h => (by simp [shape] at h), fun _ => Nat.le_refl _⟩
  | n + 1, t => by
    simp only [shape, tsz, manyD]
    cases h1 : nameOk t.val
    · simp
    · by_cases h2 : t.kids.length ≤ 2
      · have h2' : ¬ t.kids.length > 2 := by omega
        rw [decide_eq_true h2, decide_eq_false h2']
        simp only [Bool.not_true, Bool.or_self, Bool.false_eq_true, if_false, Bool.and_self, Bool.true_and]
        refine ⟨fun h => ?_, fun h => ?_⟩
        · rw [sumN_congr fun x hx => (tsz_shape n x).1 (List.all_eq_true.1 h x hx)]
        · obtain ⟨x, hx, h3⟩ := List.all_eq_false.1 h
          have h4 := (tsz_shape n x).2 (by simpa using h3)
          have h5 := sumN_mem (tsz n) hx
          omega
      · have h2' : t.kids.length > 2 := by omega
        rw [decide_eq_false h2, decide_eq_true h2']
        simp
theorem isTerm_right (t : Tm) : isTerm t = right t := by
  obtain ⟨h1, h2⟩ := tsz_shape 4 t
  unfold isTerm right
  cases h : shape 4 t
  · rw [Bool.false_and]; exact decide_eq_false (by have := h2 h; omega)
  · rw [h1 h, Bool.true_and]
theorem tsz_le : ∀ (n : Nat) (t : Tm), tsz n t + 1 ≤ 14 * 2 ^ n
  | 0, t => by simp [tsz]
  | n + 1, t => by
    have h0 : 1 ≤ 2 ^ n := Nat.one_le_two_pow
    simp only [tsz, Nat.pow_succ]
    split
    · omega
    · rename_i h
      have h2 : t.kids.length ≤ 2 := by
        simp only [Bool.or_eq_true, decide_eq_true_eq] at h; omega
      have h3 : sumN (tsz n) t.kids ≤ t.kids.length * (14 * 2 ^ n - 1) := sumN_le fun x _ => by have := tsz_le n x; omega
      have h4 : t.kids.length * (14 * 2 ^ n - 1) ≤ 2 * (14 * 2 ^ n - 1) := Nat.mul_le_mul_right _ h2
      omega
theorem manyD_le : ∀ (n : Nat) (t : Tm), manyD n t ≤ 1 + costT t
  | 0, t => by simp [manyD]
  | n + 1, t => by
    simp only [manyD]
    rw [costT_eq]
    have : ∀ l : List Tm, sumN (manyD n) l ≤ l.length + costTs l := by
      intro l
      induction l with
      | nil => simp [sumN]
      | cons x r ih => simp only [sumN, costTs, List.length_cons]; have := manyD_le n x; omega
    have := this t.kids
    omega
theorem sigL_mem : ∀ {s : Sig} {p : Option ByteArray}, sigL p s = true → ∀ y ∈ s, symOk y = true
  | x :: r, p, h, y, hy => by
    simp only [sigL, Bool.and_eq_true] at h
    cases List.mem_cons.1 hy with
    | inl e => subst e; exact h.1.1
    | inr e => exact sigL_mem h.2 y e
theorem sigOk_mem {s : Sig} (h : sigOk s = true) {y : Sym} (hy : y ∈ s) : symOk y = true := by
  simp only [sigOk, Bool.and_eq_true] at h
  exact sigL_mem h.1 y hy
theorem find_mem {s : Sig} {nm : ByteArray} (h : (find s nm).isSome = true) : symOf s nm ∈ s := by
  unfold symOf
  cases h2 : find s nm with
  | none => rw [h2] at h; cases h
  | some y => exact List.mem_of_find?_eq_some h2
theorem isSort_iff {n : Int} : isSort n = true ↔ n = 0 ∨ n = 1 := by simp [isSort]
theorem sortT_eq (s : Sig) (a : ByteArray) (b : List Tm) : sortT s (.mk a b) = if (find s a).isSome = true ∧ (symOf s a).2.1.length = b.length ∧ sortL s b (symOf s a).2.1 = true then some (symOf s a).2.2 else none := by
  simp only [sortT]
  unfold symOf
  cases h : find s a with
  | none => simp
  | some y => simp only [Option.getD_some, Option.isSome_some, true_and]; split <;> split <;> simp_all
theorem sortT_sort {s : Sig} (hs : sigOk s = true) {t : Tm} {n : Int} (h : sortT s t = some n) : n = 0 ∨ n = 1 := by
  cases t with
  | mk a b =>
    rw [sortT_eq] at h
    split at h
    · rename_i h1
      cases h
      have := sigOk_mem hs (find_mem h1.1)
      simp only [symOk, Bool.and_eq_true] at this
      exact isSort_iff.1 this.1.2
    · cases h
theorem sortL_cons (s : Sig) (t : Tm) (ts : List Tm) (n : Int) (ns : List Int) : sortL s (t :: ts) (n :: ns) = (decide (sortT s t = some n) && sortL s ts ns) := by
  conv => lhs; unfold sortL
  rfl
theorem find_step {s : Sig} {nm : ByteArray} {k : Nat} (hk : k < s.length) (he : find s nm = find (s.drop k) nm) : ((s.getD k dY).1 = nm → find s nm = some (s.getD k dY)) ∧ ((s.getD k dY).1 ≠ nm → find s nm = find (s.drop (k + 1)) nm) := by
  rw [drop_get dY hk] at he
  unfold find at he ⊢
  rw [List.find?_cons] at he
  refine ⟨fun h => ?_, fun h => ?_⟩
  · rw [he]; simp only [h, decide_true]
  · rw [he]; simp only [h, decide_false]
end Pl
namespace Cg
open Go Go.Proofs Pl

theorem tm_size {a : ByteArray} {b : List Tm} (h : SmT (.mk a b)) : a.size ≤ 1048576 ∧ b.length ≤ 1048576 := by
  have h1 : costT (.mk a b) ≤ 1048576 := h
  rw [costT_eq] at h1
  simp only [Tree.val, Tree.kids] at h1
  omega

theorem k_l4Shape (n : Nat) : SoundC Tryz.prog (K_l4Shape n).1 (K_l4Shape n).2 := by
  induction n with
  | zero => exact sound_of hm (CtxOK.nil.and k_sNameOk) (fun _ => []) (by kernel_rfl) fun (x : TP) hl => (by
      rw [← vc_l4Shape0 x]
      simp [-List.getD_eq_getElem?_getD, -List.mem_cons, -Bool.forall_bool, -Bool.exists_bool, and_assoc, peta, tl_inj, ex_1, ex_2, ex_3, ex_4, ex_5, ex_6, ex_7, ex_8, ex_9, ey_2, ey_3, ey_4, ey_5, ey_6, ey_7, ey_8, ey_9]
      rfl)
  | succ n ih => exact sound_of hm ((CtxOK.nil.and (K := K_l4Shape n) ih).and k_sNameOk) (fun x => A_l4Shape n x.1 x.2) (by kernel_rfl) fun (x : TP) hl => (by
      have h1 : SmT (.mk x.1 x.2) := hl.1
      have hn : n + 1 ≤ 10 := hl.2
      clear hl
      rw [← vc_l4Shape n x]
      obtain ⟨a, b⟩ := x
      dsimp only at *
      simp [-List.getD_eq_getElem?_getD, -List.mem_cons, -Bool.forall_bool, -Bool.exists_bool, and_assoc, peta, tl_inj, ex_1, ex_2, ex_3, ex_4, ex_5, ex_6, ex_7, ex_8, ex_9, ey_2, ey_3, ey_4, ey_5, ey_6, ey_7, ey_8, ey_9]
      obtain ⟨t1, t2⟩ := tm_size h1
      have k1 := (SmT.kids h1).len
      have e : Pl.shape (n + 1) (Tree.mk a b) = (nameOk a && decide (b.length ≤ 2) && b.all (Pl.shape n)) := rfl
      refine ⟨t1, fun h => by rw [e, h]; rfl, fun h => ⟨fun h2 => by rw [e, decide_eq_false (by omega)]; simp, fun h2 => ⟨⟨0, by simp, by rw [e, h, decide_eq_true (by omega)]; simp, rfl⟩, fun k hk he => ⟨fun hlt => ?_, fun hge => by rw [he, drop_end (by omega)]; rfl⟩⟩⟩⟩
      rw [drop_get dT hlt, List.all_cons] at he
      exact ⟨hlt, wrap_small (by omega) (by omega), (SmT.kids h1).mem (getD_mem dT hlt), by omega, fun h3 => by rw [he, h3]; rfl, fun h3 => ⟨k + 1, hlt, by rw [he, h3, Bool.true_and], by omega, wrap_small (by omega) (by omega)⟩⟩)

theorem k_l4Many (n : Nat) : SoundC Tryz.prog (K_l4Many n).1 (K_l4Many n).2 := by
  induction n with
  | zero => exact sound_of hm CtxOK.nil (fun x => A_l4Many0 x.1 x.2) (by kernel_rfl) fun (x : TP) hl => (by
      clear hl
      rw [← vc_l4Many0 x]
      obtain ⟨a, b⟩ := x
      dsimp only at *
      simp [-List.getD_eq_getElem?_getD, -List.mem_cons, -Bool.forall_bool, -Bool.exists_bool, and_assoc, peta, tl_inj, ex_1, ex_2, ex_3, ex_4, ex_5, ex_6, ex_7, ex_8, ex_9, ey_2, ey_3, ey_4, ey_5, ey_6, ey_7, ey_8, ey_9]
      simp [manyD])
  | succ n ih => exact sound_of hm (CtxOK.nil.and (K := K_l4Many n) ih) (fun x => A_l4Many n x.1 x.2) (by kernel_rfl) fun (x : TP) hl => (by
      have h1 : SmT (.mk x.1 x.2) := hl.1
      have hn : n + 1 ≤ 10 := hl.2
      clear hl
      rw [← vc_l4Many n x]
      obtain ⟨a, b⟩ := x
      dsimp only at *
      simp [-List.getD_eq_getElem?_getD, -List.mem_cons, -Bool.forall_bool, -Bool.exists_bool, and_assoc, peta, tl_inj, ex_1, ex_2, ex_3, ex_4, ex_5, ex_6, ex_7, ex_8, ex_9, ey_2, ey_3, ey_4, ey_5, ey_6, ey_7, ey_8, ey_9]
      have k1 := (SmT.kids h1).len
      have bnd : ∀ k, 1 + sumN (manyD n) (b.take k) ≤ 1 + costT (.mk a b) := fun k => by
        have := sumN_take_le (manyD n) b k
        have h2 := manyD_le (n + 1) (.mk a b)
        simp only [manyD, Tree.kids] at h2
        omega
      have h1' : costT (.mk a b) ≤ 1048576 := h1
      refine ⟨⟨0, by simp, by simp [sumN], rfl⟩, fun k hk => ⟨fun hlt => ?_, fun hge => ?_⟩⟩
      · have ht := sumN_take (manyD n) dT hlt
        have := bnd (k + 1)
        exact ⟨hlt, wrap_small (by omega) (by omega), (SmT.kids h1).mem (getD_mem dT hlt), by omega, k + 1, hlt, by omega, by rw [wrap_small (by omega) (by omega), ht]; omega, wrap_small (by omega) (by omega)⟩
      · rw [List.take_of_length_le hge]; simp [manyD])

theorem k_l4Right : SoundC Tryz.prog K_l4Right.1 K_l4Right.2 := sound_of hm ((CtxOK.nil.and (K := K_l4Many 4) (k_l4Many 4)).and (K := K_l4Shape 4) (k_l4Shape 4)) (fun _ => []) (by kernel_rfl) fun (a, b) hl => cast (vc_l4Right a b) (by
  replace hl : SmT (.mk a b) := hl
  simp [-List.getD_eq_getElem?_getD, -List.mem_cons, -Bool.forall_bool, -Bool.exists_bool, and_assoc, peta, tl_inj, ex_1, ex_2, ex_3, ex_4, ex_5, ex_6, ex_7, ex_8, ex_9, ey_2, ey_3, ey_4, ey_5, ey_6, ey_7, ey_8, ey_9]
  exact ⟨hl, fun h => ⟨hl, by unfold right; rw [h, Bool.true_and]; congr 1; simp only [eq_iff_iff]; omega⟩, fun h => by unfold right; rw [h]; rfl⟩)
theorem k_l4Find : SoundC Tryz.prog K_l4Find.1 K_l4Find.2 := sound_of hm CtxOK.nil (fun (s, nm) => A_l4Find s nm) (by kernel_rfl) fun (s, nm) hl => cast (vc_l4Find s nm) (by
  replace hl : SmG s := hl
  simp [-List.getD_eq_getElem?_getD, -List.mem_cons, -Bool.forall_bool, -Bool.exists_bool, and_assoc, peta, tl_inj, ex_1, ex_2, ex_3, ex_4, ex_5, ex_6, ex_7, ex_8, ex_9, ey_2, ey_3, ey_4, ey_5, ey_6, ey_7, ey_8, ey_9]
  have hlen := hl.len
  refine ⟨⟨0, by simp, by simp, rfl, rfl⟩, fun k hk he => ⟨fun hlt => ⟨hlt, fun h => ?_, fun h => ⟨k + 1, hlt, (find_step hlt he).2 h, by omega, wrap_small (by omega) (by omega)⟩⟩, fun hge => ?_⟩⟩
  · have := (find_step hlt he).1 h
    unfold symOf
    rw [this]
    exact ⟨hlt, rfl, rfl, rfl, rfl⟩
  · rw [drop_end (by omega)] at he
    unfold symOf
    rw [he]
    exact ⟨rfl, rfl, rfl, rfl⟩)
theorem k_symbol : SoundC Tryz.prog K_symbol.1 K_symbol.2 := sound_of hm CtxOK.nil (fun (s, nm) => A_symbol s nm) (by kernel_rfl) fun (s, nm) hl => cast (vc_symbol s nm) (by
  replace hl : SmG s := hl
  simp [-List.getD_eq_getElem?_getD, -List.mem_cons, -Bool.forall_bool, -Bool.exists_bool, and_assoc, peta, tl_inj, ex_1, ex_2, ex_3, ex_4, ex_5, ex_6, ex_7, ex_8, ex_9, ey_2, ey_3, ey_4, ey_5, ey_6, ey_7, ey_8, ey_9]
  have hlen := hl.len
  refine ⟨⟨0, by simp, by simp, rfl, rfl⟩, fun k hk he => ⟨fun hlt => ⟨hlt, fun h => ?_, fun h => ⟨k + 1, hlt, (find_step hlt he).2 h, by omega, wrap_small (by omega) (by omega)⟩⟩, fun hge => ?_⟩⟩
  · have := (find_step hlt he).1 h
    unfold symOf
    rw [this]
    exact ⟨rfl, rfl, rfl, rfl⟩
  · rw [drop_end (by omega)] at he
    unfold symOf
    rw [he]
    exact ⟨rfl, rfl, rfl, rfl⟩)
theorem k_l4Of (n : Nat) : SoundC Tryz.prog (K_l4Of n).1 (K_l4Of n).2 := by
  induction n with
  | zero => exact sound_of hm CtxOK.nil (fun _ => []) (by kernel_rfl) fun x h => absurd h.2 (Nat.not_lt_zero _)
  | succ n ih => exact sound_of hm ((CtxOK.nil.and (K := K_l4Of n) ih).and k_l4Find) (fun x => A_l4Of x.1 x.2.1 x.2.2) (by kernel_rfl) fun (x : Sig × TP) hl => (by
      have hs : sigOk x.1 = true := hl.1.1
      have hg : SmG x.1 := hl.1.2.1
      have ht : SmT (.mk x.2.1 x.2.2) := hl.1.2.2
      have hn : manyL x.2.2 < n + 1 := hl.2
      clear hl
      rw [← vc_l4Of n x]
      obtain ⟨s, a, b⟩ := x
      dsimp only at *
      simp [-List.getD_eq_getElem?_getD, -List.mem_cons, -Bool.forall_bool, -Bool.exists_bool, and_assoc, peta, tl_inj, ex_1, ex_2, ex_3, ex_4, ex_5, ex_6, ex_7, ex_8, ex_9, ey_2, ey_3, ey_4, ey_5, ey_6, ey_7, ey_8, ey_9]
      have k1 := (SmT.kids ht).len
      have e := sortT_eq s a b
      refine ⟨hg, fun h => by rw [e, h]; rfl, fun h => ⟨fun h2 => by rw [e, if_neg (fun h3 => h2 (by omega))]; rfl, fun h2 => ⟨⟨0, by simp, by omega, h, by simp, rfl⟩, fun k hk hb hf he => ⟨fun hlt => ?_, fun hge => ?_⟩⟩⟩⟩
      · have hy := sigOk_mem hs (find_mem hf)
        simp only [symOk, Bool.and_eq_true] at hy
        have hz := isSort_iff.1 (List.all_eq_true.1 hy.2 _ (getD_mem 0 (by omega : k < (symOf s a).2.1.length)))
        rw [drop_get dT hlt, drop_get 0 (by omega : k < (symOf s a).2.1.length)] at he
        rw [sortL_cons] at he
        have key : (sortT s (b.getD k dT)).getD (-1) = (symOf s a).2.1.getD k 0 ↔ sortT s (b.getD k dT) = some ((symOf s a).2.1.getD k 0) := by
          cases sortT s (b.getD k dT) with
          | none => exact ⟨fun h => by simp only [Option.getD_none] at h; omega, fun h => by cases h⟩
          | some m => simp
        refine ⟨hlt, hs, hg, (SmT.kids ht).mem (getD_mem dT hlt), by have := manyL_kids (getD_mem dT hlt); omega, by omega, fun h3 => ?_, fun h3 => ⟨k + 1, hlt, hb, hf, ?_, by omega, wrap_small (by omega) (by omega)⟩⟩
        · rw [decide_eq_false (fun h4 => h3 (key.2 h4)), Bool.false_and] at he
          rw [e, if_neg (fun h5 => by rw [he] at h5; cases h5.2.2)]; rfl
        · rw [he, decide_eq_true (key.1 h3), Bool.true_and]
      · rw [drop_end (by omega)] at he
        simp only [sortL] at he
        rw [e, if_pos ⟨hf, hb, he⟩]; rfl)
theorem k_sortOf (n : Nat) : SoundC Tryz.prog (K_sortOf n).1 (K_sortOf n).2 := by
  induction n with
  | zero => exact sound_of hm CtxOK.nil (fun _ => []) (by kernel_rfl) fun x h => absurd h.2 (Nat.not_lt_zero _)
  | succ n ih => exact sound_of hm ((CtxOK.nil.and (K := K_sortOf n) ih).and k_symbol) (fun x => A_sortOf x.1 x.2.1 x.2.2) (by kernel_rfl) fun (x : Sig × TP) hl => (by
      have hs : sigOk x.1 = true := hl.1.1
      have hg : SmG x.1 := hl.1.2.1
      have ht : SmT (.mk x.2.1 x.2.2) := hl.1.2.2
      have hn : manyL x.2.2 < n + 1 := hl.2
      clear hl
      rw [← vc_sortOf n x]
      obtain ⟨s, a, b⟩ := x
      dsimp only at *
      simp [-List.getD_eq_getElem?_getD, -List.mem_cons, -Bool.forall_bool, -Bool.exists_bool, and_assoc, peta, tl_inj, ex_1, ex_2, ex_3, ex_4, ex_5, ex_6, ex_7, ex_8, ex_9, ey_2, ey_3, ey_4, ey_5, ey_6, ey_7, ey_8, ey_9]
      have k1 := (SmT.kids ht).len
      have e := sortT_eq s a b
      have no : ¬ ((find s a).isSome = true ∧ (symOf s a).2.1.length = b.length ∧ sortL s b (symOf s a).2.1 = true) → 0 = (sortT s (Tree.mk a b)).getD 0 ∧ sortT s (Tree.mk a b) = none := fun h => by
        rw [e, if_neg h]; exact ⟨rfl, rfl⟩
      refine ⟨hg, fun h => no (fun h3 => by rw [h] at h3; cases h3.1), fun h => ⟨fun h2 => no (fun h3 => h2 (by omega)), fun h2 => ⟨⟨0, by simp, by omega, h, by simp, rfl⟩, fun k hk hb hf he => ⟨fun hlt => ?_, fun hge => ?_⟩⟩⟩⟩
      · rw [drop_get dT hlt, drop_get 0 (by omega : k < (symOf s a).2.1.length), sortL_cons] at he
        have bad : sortT s (b.getD k dT) ≠ some ((symOf s a).2.1.getD k 0) → 0 = (sortT s (Tree.mk a b)).getD 0 ∧ sortT s (Tree.mk a b) = none := fun h3 => no (fun h4 => by
          rw [decide_eq_false h3, Bool.false_and] at he
          rw [he] at h4; cases h4.2.2)
        refine ⟨hlt, hs, hg, (SmT.kids ht).mem (getD_mem dT hlt), by have := manyL_kids (getD_mem dT hlt); omega, fun h3 => bad (by rw [h3]; simp), fun h3 => ⟨by omega, fun h4 => bad (fun h5 => h4 (by rw [h5]; rfl)), fun h4 => ⟨k + 1, hlt, hb, hf, ?_, by omega, wrap_small (by omega) (by omega)⟩⟩⟩
        have h6 : sortT s (b.getD k dT) = some ((symOf s a).2.1.getD k 0) := by
          cases h7 : sortT s (b.getD k dT) with
          | none => rw [h7] at h3; cases h3
          | some m => rw [h7] at h4; simp only [Option.getD_some] at h4; rw [h4]
        rw [he, decide_eq_true h6, Bool.true_and]
      · rw [drop_end (by omega)] at he
        simp only [sortL] at he
        rw [e, if_pos ⟨hf, hb, he⟩]; exact ⟨rfl, rfl⟩)
theorem k_lOf : SoundC Tryz.prog K_lOf.1 K_lOf.2 := SoundC.fam (fun x => manyL x.2.2) fun n => k_l4Of n
theorem k_sOf : SoundC Tryz.prog K_sOf.1 K_sOf.2 := SoundC.fam (fun x => manyL x.2.2) fun n => k_sortOf n
theorem k_termSize (n : Nat) : SoundC Tryz.prog (K_termSize n).1 (K_termSize n).2 := by
  induction n with
  | zero => exact sound_of hm (CtxOK.nil.and k_iNameOk) (fun _ => []) (by kernel_rfl) fun (x : TP) hl => (by
      have h1 : SmT (.mk x.1 x.2) := hl.1
      clear hl
      rw [← vc_termSize0 x]
      obtain ⟨a, b⟩ := x
      dsimp only at *
      simp [-List.getD_eq_getElem?_getD, -List.mem_cons, -Bool.forall_bool, -Bool.exists_bool, and_assoc, peta, tl_inj, ex_1, ex_2, ex_3, ex_4, ex_5, ex_6, ex_7, ex_8, ex_9, ey_2, ey_3, ey_4, ey_5, ey_6, ey_7, ey_8, ey_9]
      exact ⟨(tm_size h1).1, fun _ => rfl, fun _ => ⟨fun _ => rfl, fun _ => rfl⟩⟩)
  | succ n ih => exact sound_of hm ((CtxOK.nil.and (K := K_termSize n) ih).and k_iNameOk) (fun x => A_termSize n x.1 x.2) (by kernel_rfl) fun (x : TP) hl => (by
      have h1 : SmT (.mk x.1 x.2) := hl.1
      have hn : n + 1 ≤ 4 := hl.2
      clear hl
      rw [← vc_termSize n x]
      obtain ⟨a, b⟩ := x
      dsimp only at *
      simp [-List.getD_eq_getElem?_getD, -List.mem_cons, -Bool.forall_bool, -Bool.exists_bool, and_assoc, peta, tl_inj, ex_1, ex_2, ex_3, ex_4, ex_5, ex_6, ex_7, ex_8, ex_9, ey_2, ey_3, ey_4, ey_5, ey_6, ey_7, ey_8, ey_9]
      obtain ⟨t1, t2⟩ := tm_size h1
      have et : tsz (n + 1) (.mk a b) = if (!nameOk a || decide (b.length > 2)) = true then 13 else 1 + sumN (tsz n) b := rfl
      have bad : (!nameOk a || decide (b.length > 2)) = true → (13 : Int) = tsz (n + 1) (.mk a b) := fun h => by
        rw [et, if_pos h]; rfl
      have good : nameOk a = true → b.length ≤ 2 → tsz (n + 1) (.mk a b) = 1 + sumN (tsz n) b := fun h h2 => by
        rw [et, if_neg]; simp [h]; omega
      refine ⟨t1, fun h => bad (by rw [h]; rfl), fun h => ⟨fun h2 => bad (by rw [decide_eq_true (by omega)]; simp), fun h2 => ⟨fun h3 => by omega, fun _ => ⟨⟨0, by simp, by omega, by simp [sumN], rfl⟩, fun k hk h2' => ⟨fun hlt => ?_, fun hge => ?_⟩⟩⟩⟩⟩
      · have ht := sumN_take (tsz n) dT hlt
        have hle := sumN_take_le (tsz n) b (k + 1)
        have h4 : sumN (tsz n) b ≤ b.length * 223 := sumN_le fun x _ => by
          have := tsz_le n x
          have : 2 ^ n ≤ 2 ^ 4 := Nat.pow_le_pow_right (by omega) (by omega)
          omega
        exact ⟨hlt, by rw [wrap_small (by omega) (by omega)]; omega, (SmT.kids h1).mem (getD_mem dT hlt), by omega, k + 1, hlt, h2', by omega, by rw [wrap_small (by omega) (by omega), ht]; omega, wrap_small (by omega) (by omega)⟩
      · rw [List.take_of_length_le hge, good h (by omega)]; omega)
theorem k_isTerm : SoundC Tryz.prog K_isTerm.1 K_isTerm.2 := sound_of hm (CtxOK.nil.and (K := K_termSize 4) (k_termSize 4)) (fun _ => []) (by kernel_rfl) fun (a, b) hl => cast (vc_isTerm a b) (by
  replace hl : SmT (.mk a b) := hl
  simp [-List.getD_eq_getElem?_getD, -List.mem_cons, -Bool.forall_bool, -Bool.exists_bool, and_assoc, peta, tl_inj, ex_1, ex_2, ex_3, ex_4, ex_5, ex_6, ex_7, ex_8, ex_9, ey_2, ey_3, ey_4, ey_5, ey_6, ey_7, ey_8, ey_9]
  refine ⟨hl, ?_⟩
  rw [← isTerm_right]
  unfold isTerm
  congr 1; simp only [eq_iff_iff]; omega)
theorem ts_no {s : Sig} {t : Tm} (h : (sigOk s && right t) = false) : 0 = (termSort s t).1 ∧ (termSort s t).2 = false := by
  unfold termSort; rw [h]; exact ⟨rfl, rfl⟩
theorem ts_yes {s : Sig} {t : Tm} (h1 : sigOk s = true) (h2 : right t = true) : termSort s t = ((sortT s t).getD 0, (sortT s t).isSome) := by
  unfold termSort; rw [h1, h2]; rfl
theorem k_sTermSort : SoundC Tryz.prog K_sTermSort.1 K_sTermSort.2 := sound_of hm (((CtxOK.nil.and k_lOf).and k_l4Right).and k_sSigOk) (fun _ => []) (by kernel_rfl) fun (s, a, b) hl => cast (vc_sTermSort s a b) (by
  obtain ⟨hg, ht⟩ : SmG s ∧ SmT (.mk a b) := hl
  simp [-List.getD_eq_getElem?_getD, -List.mem_cons, -Bool.forall_bool, -Bool.exists_bool, and_assoc, peta, tl_inj, ex_1, ex_2, ex_3, ex_4, ex_5, ex_6, ex_7, ex_8, ex_9, ey_2, ey_3, ey_4, ey_5, ey_6, ey_7, ey_8, ey_9]
  refine ⟨hg, fun h => ts_no (by rw [h]; rfl), fun h => ⟨ht, fun h2 => ts_no (by rw [h, h2]; rfl), fun h2 => ⟨h, hg, ht, fun h3 => ?_, fun h3 => ?_⟩⟩⟩
  · rw [ts_yes h h2]
    cases h4 : sortT s (.mk a b) with
    | none => exact ⟨rfl, rfl⟩
    | some m => rw [h4] at h3; simp only [Option.getD_some] at h3; have := sortT_sort h h4; omega
  · rw [ts_yes h h2]
    cases h4 : sortT s (.mk a b) with
    | none => rw [h4] at h3; simp at h3
    | some m => exact ⟨rfl, rfl⟩)
theorem k_iTermSort : SoundC Tryz.prog K_iTermSort.1 K_iTermSort.2 := sound_of hm (((CtxOK.nil.and k_sOf).and k_isTerm).and k_iSigOk) (fun _ => []) (by kernel_rfl) fun (s, a, b) hl => cast (vc_iTermSort s a b) (by
  obtain ⟨hg, ht⟩ : SmG s ∧ SmT (.mk a b) := hl
  simp [-List.getD_eq_getElem?_getD, -List.mem_cons, -Bool.forall_bool, -Bool.exists_bool, and_assoc, peta, tl_inj, ex_1, ex_2, ex_3, ex_4, ex_5, ex_6, ex_7, ex_8, ex_9, ey_2, ey_3, ey_4, ey_5, ey_6, ey_7, ey_8, ey_9]
  exact ⟨hg, fun h => ts_no (by rw [h]; rfl), fun h => ⟨ht, fun h2 => ts_no (by rw [h, h2]; rfl), fun h2 => ⟨h, hg, ht, by rw [ts_yes h h2], by rw [ts_yes h h2]⟩⟩⟩)
end Cg

/-
  The codes' contracts: models: sizes, copies, equality. No condition.
-/
set_option linter.unusedVariables false
set_option linter.unusedSimpArgs false
set_option maxRecDepth 100000
set_option maxHeartbeats 1000000
namespace Cg
open Go Go.Proofs Pl
theorem SmM.mem {m : Mdl} (h : SmM m) {x : Rw} (hx : x ∈ m) : x.1.size ≤ 1048576 ∧ x.2.1.length ≤ 1048576 := by
  have h1 : m.length + sumN costR m ≤ 1048576 := h
  have h2 := sumN_mem costR hx
  have h3 : costR x = x.1.size + x.2.1.length := rfl
  omega
theorem SmM.len {m : Mdl} (h : SmM m) : m.length ≤ 1048576 := by
  have h1 : m.length + sumN costR m ≤ 1048576 := h
  omega

theorem k_l7Rats : SoundC Tryz.prog K_l7Rats.1 K_l7Rats.2 := sound_of hm CtxOK.nil (fun x => A_l7Rats x.1 x.2) (by kernel_rfl) fun (x : List Rt × List Rt) hl => (by
  rw [← vc_l7Rats x]
  have hlen : x.1.length ≤ 4294967296 := hl
  obtain ⟨l, m⟩ := x
  dsimp only at *
  simp [-List.getD_eq_getElem?_getD, -List.mem_cons, -Bool.forall_bool, -Bool.exists_bool, and_assoc, peta, tl_inj, ex_1, ex_2, ex_3, ex_4, ex_5, ex_6, ex_7, ex_8, ex_9, ey_2, ey_3, ey_4, ey_5, ey_6, ey_7, ey_8, ey_9]
  refine ⟨fun h e => h (by rw [e]), fun h => ⟨⟨0, by simp; omega⟩, fun k hk hlm he => ⟨fun hlt => ⟨hlt, by omega, fun h => (eq_step dQ hlt hlm he).1 (fun e => by rw [e] at h; simp at h), fun h1 h2 => ⟨k + 1, hlt, hlm, (eq_step dQ hlt hlm he).2 (Prod.ext h1 h2), by omega, wrap_small (by omega) (by omega)⟩⟩, fun hge => ?_⟩⟩⟩
  rw [drop_end (by omega), drop_end (l := m) (by omega)] at he
  exact he.2 rfl)

end Cg

/-
  The codes' contracts: valid models. No condition.
-/
set_option linter.unusedVariables false
set_option linter.unusedSimpArgs false
set_option maxRecDepth 100000
set_option maxHeartbeats 1000000
namespace Pl
open Go Cg
theorem bl_asymm : ∀ {x y : List UInt8}, Op.bytesLess x y = true → Op.bytesLess y x = false
  | [], [], _ => rfl
  | _ :: _, [], h => by cases h
  | [], _ :: _, _ => rfl
  | a :: x, b :: y, h => by
    simp only [Op.bytesLess, Bool.or_eq_true, decide_eq_true_eq, Bool.and_eq_true, beq_iff_eq] at h
    simp only [Op.bytesLess, Bool.or_eq_false_iff, decide_eq_false_iff_not, Bool.and_eq_false_iff]
    rcases h with h | ⟨h, h1⟩
    · exact ⟨fun h2 => by simp only [UInt8.lt_iff_toNat_lt] at h h2; omega, .inl (by simp only [beq_eq_false_iff_ne]; intro e; subst e; simp only [UInt8.lt_iff_toNat_lt] at h; omega)⟩
    · subst h
      exact ⟨fun h2 => by simp only [UInt8.lt_iff_toNat_lt] at h2; omega, .inr (bl_asymm h1)⟩
theorem bl_total : ∀ {x y : List UInt8}, Op.bytesLess x y = false → Op.bytesLess y x = false → x = y
  | [], [], _, _ => rfl
  | [], _ :: _, h, _ => by cases h
  | _ :: _, [], _, h => by cases h
  | a :: x, b :: y, h, h' => by
    simp only [Op.bytesLess, Bool.or_eq_false_iff, decide_eq_false_iff_not, Bool.and_eq_false_iff, beq_eq_false_iff_ne] at h h'
    have e : a = b := by
      have h1 := h.1
      have h2 := h'.1
      simp only [UInt8.lt_iff_toNat_lt] at h1 h2
      exact UInt8.toNat_inj.1 (by omega)
    subst e
    have h1 : Op.bytesLess x y = false := by rcases h.2 with h | h <;> simp_all
    have h2 : Op.bytesLess y x = false := by rcases h'.2 with h | h <;> simp_all
    rw [bl_total h1 h2]
theorem bl_irrefl (x : List UInt8) : Op.bytesLess x x = false := by
  cases h : Op.bytesLess x x with
  | false => rfl
  | true => rw [bl_asymm h] at h; cases h
theorem tl_inj' {a b : ByteArray} (h : a.toList = b.toList) : a = b := Cg.tl_inj.1 h
theorem cmpS_zero {a b : ByteArray} : cmpS a b = 0 ↔ a = b := by
  unfold cmpS sLess
  constructor
  · intro h
    cases h1 : Op.bytesLess a.toList b.toList <;> simp only [h1, if_true, if_false] at h
    · cases h2 : Op.bytesLess b.toList a.toList <;> simp only [h2] at h
      · exact tl_inj' (bl_total h1 h2)
      · simp at h
    · simp at h
  · rintro rfl; simp [bl_irrefl]
theorem cmpS_neg {a b : ByteArray} : cmpS a b < 0 ↔ sLess a b = true := by
  unfold cmpS
  cases h1 : sLess a b <;> simp
  split <;> omega
theorem cmpI_zero {a b : Int} : cmpI a b = 0 ↔ a = b := by unfold cmpI; split <;> (try split) <;> omega
theorem cmpI_neg {a b : Int} : cmpI a b < 0 ↔ a < b := by unfold cmpI; split <;> (try split) <;> omega
theorem ratOk_iff {x : Rt} : ratOk x = true ↔ -1000000000 ≤ x.1 ∧ x.1 ≤ 1000000000 ∧ 1 ≤ x.2 ∧ x.2 ≤ 1000000000 ∧ Nat.gcd x.1.natAbs x.2.natAbs = 1 := by
  simp only [ratOk, Bool.and_eq_true, decide_eq_true_eq, and_assoc]
theorem rat_eq {x y : Rt} (hx : ratOk x = true) (hy : ratOk y = true) (h : x.1 * y.2 = y.1 * x.2) : x = y := by
  obtain ⟨a, b⟩ := x
  obtain ⟨c, d⟩ := y
  obtain ⟨h1, h2, h3, h4, h5⟩ := ratOk_iff.1 hx
  obtain ⟨k1, k2, k3, k4, k5⟩ := ratOk_iff.1 hy
  dsimp only at *
  have hn : a.natAbs * d.natAbs = c.natAbs * b.natAbs := by rw [← Int.natAbs_mul, ← Int.natAbs_mul, h]
  have hbd : b.natAbs ∣ d.natAbs := Nat.Coprime.dvd_of_dvd_mul_left (m := a.natAbs) (Nat.coprime_comm.1 h5) (hn ▸ Nat.dvd_mul_left _ _)
  have hdb : d.natAbs ∣ b.natAbs := Nat.Coprime.dvd_of_dvd_mul_left (m := c.natAbs) (Nat.coprime_comm.1 k5) (hn ▸ Nat.dvd_mul_left _ _)
  have hbd' : b.natAbs = d.natAbs := Nat.dvd_antisymm hbd hdb
  have e : b = d := by omega
  subst e
  exact Prod.ext (Int.eq_of_mul_eq_mul_right (by omega) h) rfl
theorem cmpRat_zero {x y : Rt} (hx : ratOk x = true) (hy : ratOk y = true) : cmpRat x y = 0 ↔ x = y := by
  constructor
  · intro h
    unfold cmpRat ratLess at h
    rw [hx, hy] at h
    simp only [Bool.and_true, Bool.true_and, decide_eq_true_eq] at h
    apply rat_eq hx hy
    split at h
    · omega
    · split at h
      · omega
      · omega
  · rintro rfl
    have : ratLess x x = false := by unfold ratLess; simp
    unfold cmpRat; rw [this]; rfl
theorem cmpRat_neg {x y : Rt} : cmpRat x y < 0 ↔ ratLess x y = true := by
  unfold cmpRat
  cases ratLess x y <;> simp
  split <;> omega
theorem cmpArgs_neg : ∀ {a b : List Rt}, a.length = b.length → a.all ratOk = true → b.all ratOk = true → (cmpArgs a b < 0 ↔ argsLess a b = true)
  | [], [], _, _, _ => by simp [cmpArgs, argsLess]
  | [], _ :: _, h, _, _ => by simp at h
  | _ :: _, [], h, _, _ => by simp at h
  | x :: a, y :: b, h, ha, hb => by
    simp only [List.all_cons, Bool.and_eq_true] at ha hb
    simp only [cmpArgs, argsLess, cmpRat_zero ha.1 hb.1]
    split
    · exact cmpArgs_neg (by simpa using h) ha.2 hb.2
    · exact cmpRat_neg
theorem rowOk_iff {x : Rw} : rowOk x = true ↔ nameOk x.1 = true ∧ x.2.1.length ≤ 2 ∧ ratOk x.2.2 = true ∧ x.2.1.all ratOk = true := by
  simp only [rowOk, Bool.and_eq_true, decide_eq_true_eq, and_assoc]
theorem cmpRows_neg {x y : Rw} (hx : rowOk x = true) (hy : rowOk y = true) : cmpRows x y < 0 ↔ rowLess x y = true := by
  have ha := (rowOk_iff.1 hx).2.2.2
  have hb := (rowOk_iff.1 hy).2.2.2
  unfold cmpRows rowLess
  simp only [orI, cmpS_zero, cmpI_zero]
  by_cases h1 : x.1 = y.1
  · rw [if_pos h1, if_pos h1]
    by_cases h2 : x.2.1.length = y.2.1.length
    · rw [if_pos (by omega), if_pos h2]
      have := cmpArgs_neg h2 ha hb
      split
      · rename_i h3; rw [← this, h3]
      · exact this
    · rw [if_neg (by omega), if_neg h2, cmpI_neg]
      simp only [decide_eq_true_eq]; omega
  · rw [if_neg h1, if_neg h1]; exact cmpS_neg
end Pl
namespace Cg
open Go Go.Proofs Pl

theorem k_l1Abs : SoundC Tryz.prog K_l1Abs.1 K_l1Abs.2 := sound_of hm CtxOK.nil (fun _ => []) (by kernel_rfl) fun (x : Int) hl => (by
  rw [← vc_l1Abs x]
  simp [-List.getD_eq_getElem?_getD, -List.mem_cons, -Bool.forall_bool, -Bool.exists_bool, and_assoc, peta, tl_inj, ex_1, ex_2, ex_3, ex_4, ex_5, ex_6, ex_7, ex_8, ex_9, ey_2, ey_3, ey_4, ey_5, ey_6, ey_7, ey_8, ey_9]
  unfold abs1
  refine ⟨fun h => by rw [if_pos (.inl h)], fun h => ⟨fun h2 => by rw [if_pos (.inr h2)], fun h2 => ⟨fun h3 => ?_, fun h3 => ?_⟩⟩⟩
  · rw [if_neg (by omega), if_pos h3, wrap_small (by omega) (by omega)]
  · rw [if_neg (by omega), if_neg (by omega)])

theorem gcd_step {u v n : Nat} (g1 : u ≤ 4611686018427387904) (g2 : v ≤ 4611686018427387904) (g3 : u.gcd v = n) : (0 < v →
      ¬v = 0 ∧
        ∃ a_2 : Nat, a_2 ≤ 4611686018427387904 ∧ ∃ x : Nat, x ≤ 4611686018427387904 ∧ a_2.gcd x = n ∧ x < v ∧ (v : Int) = (a_2 : Int) ∧ (u : Int).tmod (v : Int) = (x : Int)) ∧
    (v = 0 → (u : Int) = (n : Int)) := by
  refine ⟨fun h => ⟨by omega, v, g2, u % v, ?_, ?_, Nat.mod_lt _ h, rfl, (Int.ofNat_tmod u v).symm⟩, fun h => ?_⟩
  · have := Nat.mod_lt u h; omega
  · rw [← g3, Nat.gcd_comm v, Nat.gcd_comm u, ← Nat.gcd_rec]
  · subst h; rw [Nat.gcd_zero_right] at g3; rw [g3]

theorem k_l1Gcd : SoundC Tryz.prog K_l1Gcd.1 K_l1Gcd.2 := sound_of hm CtxOK.nil (fun x => A_l1Gcd x.1 x.2) (by kernel_rfl) fun (x : Nat × Nat) hl => (by
  obtain ⟨h1, h2⟩ : x.1 ≤ 4611686018427387904 ∧ x.2 ≤ 4611686018427387904 := hl
  obtain ⟨a, b⟩ := x
  rw [← vc_l1Gcd a b]
  dsimp only at *
  refine ⟨⟨(a, b), ⟨h1, h2, rfl⟩, ⟨rfl, rfl, trivial⟩, trivial⟩, fun (u, v) ⟨g1, g2, g3⟩ => ?_⟩
  dsimp only at *
  simp [-List.getD_eq_getElem?_getD, -List.mem_cons, -Bool.forall_bool, -Bool.exists_bool, and_assoc, peta, tl_inj, ex_1, ex_2, ex_3, ex_4, ex_5, ex_6, ex_7, ex_8, ex_9, ey_2, ey_3, ey_4, ey_5, ey_6, ey_7, ey_8, ey_9]
  exact gcd_step g1 g2 g3)

theorem k_gcd : SoundC Tryz.prog K_gcd.1 K_gcd.2 := sound_of hm CtxOK.nil (fun x => A_gcd x.1 x.2) (by kernel_rfl) fun (x : Int × Int) hl => (by
  obtain ⟨h1, h2⟩ : x.1.natAbs ≤ 4611686018427387904 ∧ x.2.natAbs ≤ 4611686018427387904 := hl
  obtain ⟨a, b⟩ := x
  rw [← vc_gcd a b]
  dsimp only at *
  rw [wrap_small (x := 0 - a) (by omega) (by omega), wrap_small (x := 0 - b) (by omega) (by omega)]
  refine ⟨⟨(a.natAbs, b.natAbs), ⟨h1, h2, rfl⟩, ⟨by split <;> omega, by split <;> omega, trivial⟩, trivial⟩, fun (u, v) ⟨g1, g2, g3⟩ => ?_⟩
  dsimp only at *
  simp [-List.getD_eq_getElem?_getD, -List.mem_cons, -Bool.forall_bool, -Bool.exists_bool, and_assoc, peta, tl_inj, ex_1, ex_2, ex_3, ex_4, ex_5, ex_6, ex_7, ex_8, ex_9, ey_2, ey_3, ey_4, ey_5, ey_6, ey_7, ey_8, ey_9]
  exact gcd_step g1 g2 g3)

theorem k_sRatOk : SoundC Tryz.prog K_sRatOk.1 K_sRatOk.2 := sound_of hm ((CtxOK.nil.and k_l1Gcd).and k_l1Abs) (fun _ => []) (by kernel_rfl) fun (x : Rt) hl => (by
  rw [← vc_sRatOk x]
  obtain ⟨a, b⟩ := x
  dsimp only at *
  simp [-List.getD_eq_getElem?_getD, -List.mem_cons, -Bool.forall_bool, -Bool.exists_bool, and_assoc, peta, tl_inj, ex_1, ex_2, ex_3, ex_4, ex_5, ex_6, ex_7, ex_8, ex_9, ey_2, ey_3, ey_4, ey_5, ey_6, ey_7, ey_8, ey_9]
  have no : (ratOk (a, b) = true → False) → ratOk (a, b) = false := fun h => by cases h1 : ratOk (a, b) with
    | false => rfl
    | true => exact (h h1).elim
  have e : abs1 a ≤ 1000000000 ↔ -1000000000 ≤ a ∧ a ≤ 1000000000 := by unfold abs1; split <;> (try split) <;> omega
  refine ⟨fun h1 => ⟨fun h2 => ⟨fun h3 => ?_, fun h3 => no fun h => ?_⟩, fun h2 => no fun h => ?_⟩, fun h1 => no fun h => ?_⟩
  · obtain ⟨u1, u2⟩ := e.1 h1
    refine ⟨a.natAbs, ?_, b.natAbs, by omega, by omega, by omega, ?_⟩
    · unfold abs1; rw [if_neg (by omega)]; split <;> omega
    · unfold ratOk
      simp only
      rw [decide_eq_true u1, decide_eq_true u2, decide_eq_true h2, decide_eq_true h3, Bool.beq_eq_decide_eq]
      simp only [Bool.true_and]
      congr 1
      simp only [eq_iff_iff]; omega
  all_goals
    have := ratOk_iff.1 h
    dsimp only at this
    omega)

theorem k_iRatOk : SoundC Tryz.prog K_iRatOk.1 K_iRatOk.2 := sound_of hm ((CtxOK.nil.and k_gcd).and k_within) (fun _ => []) (by kernel_rfl) fun (x : Rt) hl => (by
  rw [← vc_iRatOk x]
  obtain ⟨a, b⟩ := x
  dsimp only at *
  simp [-List.getD_eq_getElem?_getD, -List.mem_cons, -Bool.forall_bool, -Bool.exists_bool, and_assoc, peta, tl_inj, ex_1, ex_2, ex_3, ex_4, ex_5, ex_6, ex_7, ex_8, ex_9, ey_2, ey_3, ey_4, ey_5, ey_6, ey_7, ey_8, ey_9]
  simp only [withinI, Bool.and_eq_true, decide_eq_true_eq, Bool.and_eq_false_iff, decide_eq_false_iff_not]
  have no : (ratOk (a, b) = true → False) → ratOk (a, b) = false := fun h => by cases h1 : ratOk (a, b) with
    | false => rfl
    | true => exact (h h1).elim
  refine ⟨fun h1 => ⟨fun h2 => ⟨by omega, by omega, ?_⟩, fun h2 => no fun h => ?_⟩, fun h1 => no fun h => ?_⟩
  · unfold ratOk
    simp only
    rw [decide_eq_true h1.1, decide_eq_true h1.2, decide_eq_true h2.1, decide_eq_true h2.2, Bool.beq_eq_decide_eq]
    simp only [Bool.true_and]
    congr 1
    simp only [eq_iff_iff]; omega
  all_goals
    have := ratOk_iff.1 h
    dsimp only at this
    omega)

theorem less_vc (x : Rt × Rt) : (Exists fun (x_1 : Pl.Rt) =>
 ((x.fst.fst = x_1.fst ∧ x.fst.snd = x_1.snd ∧ True) ∧ True) ∧
 True ∧
 condP (Pl.ratOk x_1)
 (Exists fun (x_2 : Pl.Rt) =>
 ((x.snd.fst = x_2.fst ∧ x.snd.snd = x_2.snd ∧ True) ∧ True) ∧
 True ∧
 condP (Pl.ratOk x_2) (Decidable.decide (IntKind.i64.wrap (x.fst.fst * x.snd.snd) < IntKind.i64.wrap (x.snd.fst * x.fst.snd)) = Pl.ratLess x.fst x.snd)
 (Bool.false = Pl.ratLess x.fst x.snd))
 (Bool.false = Pl.ratLess x.fst x.snd)) := by
  obtain ⟨⟨a, b⟩, c, d⟩ := x
  dsimp only at *
  simp [-List.getD_eq_getElem?_getD, -List.mem_cons, -Bool.forall_bool, -Bool.exists_bool, and_assoc, peta, tl_inj, ex_1, ex_2, ex_3, ex_4, ex_5, ex_6, ex_7, ex_8, ex_9, ey_2, ey_3, ey_4, ey_5, ey_6, ey_7, ey_8, ey_9]
  refine ⟨fun h => ⟨fun h2 => ?_, fun h2 => by unfold ratLess; rw [h2]; simp⟩, fun h => by unfold ratLess; rw [h]; simp⟩
  obtain ⟨h1, h2', h3, h4, h5⟩ := ratOk_iff.1 h
  obtain ⟨k1, k2, k3, k4, k5⟩ := ratOk_iff.1 h2
  unfold ratLess
  rw [h, h2]
  dsimp only at *
  have w : ∀ {p q : Int}, -1000000000 ≤ p → p ≤ 1000000000 → 1 ≤ q → q ≤ 1000000000 → IntKind.i64.wrap (p * q) = p * q := fun {p q} e1 e2 e3 e4 => by
    have u1 : p * q ≤ 1000000000 * q := Int.mul_le_mul_of_nonneg_right e2 (by omega)
    have u2 : -1000000000 * q ≤ p * q := Int.mul_le_mul_of_nonneg_right e1 (by omega)
    exact wrap_small (by omega) (by omega)
  rw [w h1 h2' k3 k4, w k1 k2 h3 h4]
  simp
theorem k_sRatLess : SoundC Tryz.prog K_sRatLess.1 K_sRatLess.2 := sound_of hm (CtxOK.nil.and k_sRatOk) (fun _ => []) (by kernel_rfl) fun (x : Rt × Rt) hl => (by
  rw [← vc_sRatLess x]; exact less_vc x)
theorem k_iRatLess : SoundC Tryz.prog K_iRatLess.1 K_iRatLess.2 := sound_of hm (CtxOK.nil.and k_iRatOk) (fun _ => []) (by kernel_rfl) fun (x : Rt × Rt) hl => (by
  rw [← vc_iRatLess x]; exact less_vc x)
theorem k_compareRats : SoundC Tryz.prog K_compareRats.1 K_compareRats.2 := sound_of hm (CtxOK.nil.and k_iRatLess) (fun _ => []) (by kernel_rfl) fun (x : Rt × Rt) hl => (by
  rw [← vc_compareRats x]
  obtain ⟨⟨a, b⟩, c, d⟩ := x
  dsimp only at *
  simp [-List.getD_eq_getElem?_getD, -List.mem_cons, -Bool.forall_bool, -Bool.exists_bool, and_assoc, peta, tl_inj, ex_1, ex_2, ex_3, ex_4, ex_5, ex_6, ex_7, ex_8, ex_9, ey_2, ey_3, ey_4, ey_5, ey_6, ey_7, ey_8, ey_9]
  unfold cmpRat
  refine ⟨fun h => by rw [if_pos h], fun h => ⟨fun h2 => by rw [if_neg (by rw [h]; simp), if_pos h2], fun h2 => by rw [h, h2]; rfl⟩⟩)

theorem all_stepR {α : Type} (d : α) (p : α → Bool) {l : List α} {k : Nat} (hk : k < l.length) (he : l.all p = (l.drop k).all p) : (p (l.getD k d) = false → l.all p = false) ∧ (p (l.getD k d) = true → l.all p = (l.drop (k + 1)).all p) := by
  rw [drop_get d hk, List.all_cons] at he
  exact ⟨fun h => by rw [he, h]; rfl, fun h => by rw [he, h]; rfl⟩

theorem k_l7Row : SoundC Tryz.prog K_l7Row.1 K_l7Row.2 := sound_of hm ((CtxOK.nil.and k_sNameOk).and k_sRatOk) (fun x => A_l7Row x) (by kernel_rfl) fun (x : Rw) hl => (by
  rw [← vc_l7Row x]
  obtain ⟨h1, h2⟩ : x.1.size ≤ 1048576 ∧ x.2.1.length ≤ 1048576 := hl
  obtain ⟨nm, args, v⟩ := x
  dsimp only at *
  simp [-List.getD_eq_getElem?_getD, -List.mem_cons, -Bool.forall_bool, -Bool.exists_bool, and_assoc, peta, tl_inj, ex_1, ex_2, ex_3, ex_4, ex_5, ex_6, ex_7, ex_8, ex_9, ey_2, ey_3, ey_4, ey_5, ey_6, ey_7, ey_8, ey_9]
  refine ⟨⟨0, by simp, by simp, rfl⟩, fun k hk he => ⟨fun hlt => ?_, fun hge => ?_⟩⟩
  · obtain ⟨e1, e2⟩ := all_stepR dQ ratOk hlt he
    exact ⟨hlt, fun h => by simp [rowOk, e1 h], fun h => ⟨k + 1, hlt, e2 h, by omega, wrap_small (by omega) (by omega)⟩⟩
  · rw [drop_end (by omega)] at he
    simp only [rowOk]
    rw [he]
    refine ⟨h1, fun h => ⟨fun h3 => ?_, fun h3 => ?_⟩, fun h => by rw [h]; rfl⟩
    · rw [h, decide_eq_true (by omega : args.length ≤ 2)]; simp
    · rw [decide_eq_false (by omega : ¬ args.length ≤ 2)]; simp)

theorem less_step {a b : List Rt} {k : Nat} (h1 : k < a.length) (h2 : k < b.length) : argsLess (a.drop k) (b.drop k) = if a.getD k dQ = b.getD k dQ then argsLess (a.drop (k + 1)) (b.drop (k + 1)) else ratLess (a.getD k dQ) (b.getD k dQ) := by
  rw [drop_get dQ h1, drop_get dQ h2]; rfl

theorem k_l7Less : SoundC Tryz.prog K_l7Less.1 K_l7Less.2 := sound_of hm (CtxOK.nil.and k_sRatLess) (fun x => A_l7Less x.1 x.2) (by kernel_rfl) fun (x : Rw × Rw) hl => (by
  rw [← vc_l7Less x]
  have h1 : x.1.2.1.length ≤ 1048576 := hl
  obtain ⟨⟨nm, args, u1, u2⟩, nm', args', u1', u2'⟩ := x
  dsimp only at *
  simp [-List.getD_eq_getElem?_getD, -List.mem_cons, -Bool.forall_bool, -Bool.exists_bool, and_assoc, peta, tl_inj, ex_1, ex_2, ex_3, ex_4, ex_5, ex_6, ex_7, ex_8, ex_9, ey_2, ey_3, ey_4, ey_5, ey_6, ey_7, ey_8, ey_9]
  unfold rowLess
  dsimp only
  refine ⟨fun h => by rw [if_neg h]; rfl, fun h => ⟨fun h3 => by rw [if_pos h, if_neg (by omega)], fun h3 => ?_⟩⟩
  rw [if_pos h, if_pos (by omega)]
  refine ⟨⟨0, by simp, by omega, by simp, rfl⟩, fun k hk he hs => ⟨fun hlt => ?_, fun hge => ?_⟩⟩
  · rw [less_step hlt (by omega)] at hs
    refine ⟨hlt, by omega, fun h4 => ⟨hlt, by omega, ?_⟩, fun h4 h5 => ⟨k + 1, hlt, he, ?_, by omega, wrap_small (by omega) (by omega)⟩⟩
    · rw [hs, if_neg]
      intro e; rw [e] at h4; simp at h4
    · rw [hs, if_pos (Prod.ext h4 h5)]
  · rw [hs, drop_end (by omega)]; rfl)

theorem k_RowOk1 : SoundC Tryz.prog K_RowOk1.1 K_RowOk1.2 := sound_of hm (CtxOK.nil.and k_iRatOk) (fun _ => []) (by kernel_rfl) fun (x : Rt) hl => (by
  rw [← vc_RowOk1 x]
  simp [-List.getD_eq_getElem?_getD, -List.mem_cons, -Bool.forall_bool, -Bool.exists_bool, and_assoc, peta, tl_inj, ex_1, ex_2, ex_3, ex_4, ex_5, ex_6, ex_7, ex_8, ex_9, ey_2, ey_3, ey_4, ey_5, ey_6, ey_7, ey_8, ey_9])

theorem k_IndexRat : SoundC Tryz.prog K_IndexRat.1 K_IndexRat.2 := sound_of hm (CtxOK.nil.and k_RowOk1) (fun x => A_IndexRat x) (by kernel_rfl) fun (l : List Rt) hl => (by
  rw [← vc_IndexRat l]
  replace hl : Sz l := hl
  simp [-List.getD_eq_getElem?_getD, -List.mem_cons, -Bool.forall_bool, -Bool.exists_bool, and_assoc, peta, tl_inj, ex_1, ex_2, ex_3, ex_4, ex_5, ex_6, ex_7, ex_8, ex_9, ey_2, ey_3, ey_4, ey_5, ey_6, ey_7, ey_8, ey_9]
  exact ⟨⟨0, by simp, idx_init _ _, rfl⟩, fun k hk he => ⟨fun hlt => ⟨hlt, fun h => (idx_step dQ _ hlt he).1 (by simp [h, -List.getD_eq_getElem?_getD]), fun h => ⟨k + 1, hlt, (idx_step dQ _ hlt he).2 (by simp [h, -List.getD_eq_getElem?_getD]), by omega, wrap_succ hlt hl⟩⟩, fun hge => idx_end _ hge he⟩⟩)
theorem k_ContainsRat : SoundC Tryz.prog K_ContainsRat.1 K_ContainsRat.2 := sound_of hm (CtxOK.nil.and k_IndexRat) (fun _ => []) (by kernel_rfl) fun (l : List Rt) hl => (by
  rw [← vc_ContainsRat l]
  replace hl : Sz l := hl
  simp only [idx_any]
  simp [-List.getD_eq_getElem?_getD, -List.mem_cons, -Bool.forall_bool, -Bool.exists_bool, and_assoc, peta, tl_inj, ex_1, ex_2, ex_3, ex_4, ex_5, ex_6, ex_7, ex_8, ex_9, ey_2, ey_3, ey_4, ey_5, ey_6, ey_7, ey_8, ey_9]
  exact hl)
theorem k_rowOk : SoundC Tryz.prog K_rowOk.1 K_rowOk.2 := sound_of hm (((CtxOK.nil.and k_ContainsRat).and k_iRatOk).and k_iNameOk) (fun _ => []) (by kernel_rfl) fun (x : Rw) hl => (by
  rw [← vc_rowOk x]
  obtain ⟨h1, h2⟩ : x.1.size ≤ 1048576 ∧ x.2.1.length ≤ 1048576 := hl
  obtain ⟨nm, args, v⟩ := x
  dsimp only at *
  simp [-List.getD_eq_getElem?_getD, -List.mem_cons, -Bool.forall_bool, -Bool.exists_bool, and_assoc, peta, tl_inj, ex_1, ex_2, ex_3, ex_4, ex_5, ex_6, ex_7, ex_8, ex_9, ey_2, ey_3, ey_4, ey_5, ey_6, ey_7, ey_8, ey_9]
  simp only [rowOk]
  refine ⟨h1, fun h => ⟨fun h3 => ⟨fun h4 => ⟨by omega, ?_⟩, fun h4 => by rw [h4]; simp⟩, fun h3 => ?_⟩, fun h => by rw [h]; rfl⟩
  · rw [h, h4, decide_eq_true (by omega : args.length ≤ 2), all_any]; simp
  · rw [decide_eq_false (by omega : ¬ args.length ≤ 2)]; simp)

theorem k_isNaNS : SoundC Tryz.prog K_isNaNS.1 K_isNaNS.2 := sound_of hm CtxOK.nil (fun _ => []) (by kernel_rfl) fun (x : ByteArray) hl => (by
  rw [← vc_isNaNS x]; simp)
theorem k_isNaNI : SoundC Tryz.prog K_isNaNI.1 K_isNaNI.2 := sound_of hm CtxOK.nil (fun _ => []) (by kernel_rfl) fun (x : Int) hl => (by
  rw [← vc_isNaNI x]; simp)
theorem k_CompareS : SoundC Tryz.prog K_CompareS.1 K_CompareS.2 := sound_of hm (CtxOK.nil.and k_isNaNS) (fun _ => []) (by kernel_rfl) fun (x : ByteArray × ByteArray) hl => (by
  rw [← vc_CompareS x]
  obtain ⟨a, b⟩ := x
  refine ⟨a, ⟨rfl, trivial⟩, trivial, b, ⟨rfl, trivial⟩, trivial, ?_⟩
  dsimp only
  unfold cmpS sLess
  cases h1 : Op.bytesLess a.toList b.toList with
  | true => simp [condP]
  | false =>
    cases h2 : Op.bytesLess b.toList a.toList with
    | true =>
      have : (a.toList == b.toList) = false := by
        simp only [beq_eq_false_iff_ne]; intro e; rw [e, bl_irrefl] at h2; cases h2
      simp [condP, this]
    | false =>
      have := bl_total h1 h2
      simp [condP, this])
theorem k_CompareI : SoundC Tryz.prog K_CompareI.1 K_CompareI.2 := sound_of hm (CtxOK.nil.and k_isNaNI) (fun _ => []) (by kernel_rfl) fun (x : Int × Int) hl => (by
  rw [← vc_CompareI x]
  obtain ⟨a, b⟩ := x
  dsimp only at *
  simp [-List.getD_eq_getElem?_getD, -List.mem_cons, -Bool.forall_bool, -Bool.exists_bool, and_assoc, peta, tl_inj, ex_1, ex_2, ex_3, ex_4, ex_5, ex_6, ex_7, ex_8, ex_9, ey_2, ey_3, ey_4, ey_5, ey_6, ey_7, ey_8, ey_9]
  unfold cmpI
  refine ⟨fun h => by rw [if_pos h], fun h => ⟨fun h2 => by rw [if_neg (by omega), if_pos h2], fun h2 => by rw [if_neg (by omega), if_neg (by omega)]⟩⟩)
theorem k_Or : SoundC Tryz.prog K_Or.1 K_Or.2 := sound_of hm CtxOK.nil (fun x => A_Or x) (by kernel_rfl) fun (x : List Int) hl => (by
  rw [← vc_Or x]
  replace hl : Sz x := hl
  simp [-List.getD_eq_getElem?_getD, -List.mem_cons, -Bool.forall_bool, -Bool.exists_bool, and_assoc, peta, tl_inj, ex_1, ex_2, ex_3, ex_4, ex_5, ex_6, ex_7, ex_8, ex_9, ey_2, ey_3, ey_4, ey_5, ey_6, ey_7, ey_8, ey_9]
  refine ⟨⟨0, by simp, by simp, rfl⟩, fun k hk he => ⟨fun hlt => ?_, fun hge => ?_⟩⟩
  · rw [drop_get 0 hlt] at he
    simp only [orI] at he
    exact ⟨hlt, fun h => by rw [he, if_neg h], fun h => ⟨k + 1, hlt, by rw [he, if_pos h], by omega, wrap_succ hlt hl⟩⟩
  · rw [he, drop_end (by omega)]; rfl)
theorem k_CompareFunc : SoundC Tryz.prog K_CompareFunc.1 K_CompareFunc.2 := sound_of hm (CtxOK.nil.and k_compareRats) (fun x => A_CompareFunc x.1 x.2) (by kernel_rfl) fun (x : List Rt × List Rt) hl => (by
  rw [← vc_CompareFunc x]
  obtain ⟨h1, h2⟩ : Sz x.1 ∧ Sz x.2 := hl
  obtain ⟨a, b⟩ := x
  dsimp only at *
  simp [-List.getD_eq_getElem?_getD, -List.mem_cons, -Bool.forall_bool, -Bool.exists_bool, and_assoc, peta, tl_inj, ex_1, ex_2, ex_3, ex_4, ex_5, ex_6, ex_7, ex_8, ex_9, ey_2, ey_3, ey_4, ey_5, ey_6, ey_7, ey_8, ey_9]
  refine ⟨⟨0, by simp, by simp, by simp, rfl⟩, fun k hk hk2 he => ⟨fun hlt => ⟨hlt, fun h => ?_, fun h => ?_⟩, fun hge => ⟨fun h => ?_, fun h => ?_⟩⟩⟩
  · rw [he, drop_get dQ hlt, drop_end (l := b) (by omega)]; rfl
  · rw [drop_get dQ hlt, drop_get dQ h] at he
    simp only [cmpArgs] at he
    exact ⟨h, fun h3 => by rw [he, if_neg h3], fun h3 => ⟨k + 1, hlt, h, by rw [he, if_pos h3], by omega, wrap_succ hlt h1⟩⟩
  · rw [he, drop_end (by omega), drop_get dQ (by omega : k < b.length)]; rfl
  · rw [he, drop_end (by omega), drop_end (l := b) (by omega)]; rfl)
theorem k_compareRows : SoundC Tryz.prog K_compareRows.1 K_compareRows.2 := sound_of hm ((((CtxOK.nil.and k_Or).and k_CompareFunc).and k_CompareI).and k_CompareS) (fun _ => []) (by kernel_rfl) fun (x : Rw × Rw) hl => (by
  rw [← vc_compareRows x]
  obtain ⟨h1, h2⟩ : Sz x.1.2.1 ∧ Sz x.2.2.1 := hl
  obtain ⟨⟨nm, args, u1, u2⟩, nm', args', u1', u2'⟩ := x
  dsimp only at *
  simp [-List.getD_eq_getElem?_getD, -List.mem_cons, -Bool.forall_bool, -Bool.exists_bool, and_assoc, peta, tl_inj, ex_1, ex_2, ex_3, ex_4, ex_5, ex_6, ex_7, ex_8, ex_9, ey_2, ey_3, ey_4, ey_5, ey_6, ey_7, ey_8, ey_9]
  exact ⟨h1, h2, rfl⟩)
theorem k_suits : SoundC Tryz.prog K_suits.1 K_suits.2 := sound_of hm CtxOK.nil (fun _ => []) (by kernel_rfl) fun (x : Rt × Int) hl => (by
  rw [← vc_suits x]
  obtain ⟨⟨a, b⟩, n⟩ := x
  dsimp only at *
  simp [-List.getD_eq_getElem?_getD, -List.mem_cons, -Bool.forall_bool, -Bool.exists_bool, and_assoc, peta, tl_inj, ex_1, ex_2, ex_3, ex_4, ex_5, ex_6, ex_7, ex_8, ex_9, ey_2, ey_3, ey_4, ey_5, ey_6, ey_7, ey_8, ey_9]
  exact ⟨fun h => by simp [suit, h], fun h => by simp [suit, h, Bool.beq_eq_decide_eq]⟩)
theorem k_l7Fit : SoundC Tryz.prog K_l7Fit.1 K_l7Fit.2 := sound_of hm (CtxOK.nil.and k_sRatOk) (fun _ => []) (by kernel_rfl) fun (x : Rt × Int) hl => (by
  rw [← vc_l7Fit x]
  obtain ⟨⟨a, b⟩, n⟩ := x
  dsimp only at *
  simp [-List.getD_eq_getElem?_getD, -List.mem_cons, -Bool.forall_bool, -Bool.exists_bool, and_assoc, peta, tl_inj, ex_1, ex_2, ex_3, ex_4, ex_5, ex_6, ex_7, ex_8, ex_9, ey_2, ey_3, ey_4, ey_5, ey_6, ey_7, ey_8, ey_9]
  exact ⟨fun h => ⟨fun h2 => by simp [fit, suit, h, h2], fun h2 => by simp [fit, suit, h, h2, Bool.beq_eq_decide_eq]⟩, fun h => by simp [fit, h]⟩)

theorem m_step {m : Mdl} {k : Nat} (hk : k < m.length) (he : mL none m = mL (prevR m k) (m.drop k)) :
    (rowOk (m.getD k dR) = false → mRight m = false) ∧ (beforeR (prevR m k) (m.getD k dR) = false → mRight m = false) ∧ (rowOk (m.getD k dR) = true → beforeR (prevR m k) (m.getD k dR) = true → mL none m = mL (prevR m (k + 1)) (m.drop (k + 1))) := by
  rw [drop_get dR hk] at he
  simp only [mL] at he
  refine ⟨fun h => ?_, fun h => ?_, fun h1 h2 => ?_⟩
  · unfold mRight; rw [he, h]; simp
  · unfold mRight; rw [he, h]; simp
  · rw [he, h1, h2]
    simp [prevR, -List.getD_eq_getElem?_getD]

theorem k_l7Right : SoundC Tryz.prog K_l7Right.1 K_l7Right.2 := sound_of hm ((CtxOK.nil.and k_l7Less).and k_l7Row) (fun x => A_l7Right x) (by kernel_rfl) fun (m : Mdl) hl => (by
  rw [← vc_l7Right m]
  replace hl : SmM m := hl
  simp [-List.getD_eq_getElem?_getD, -List.mem_cons, -Bool.forall_bool, -Bool.exists_bool, and_assoc, peta, tl_inj, ex_1, ex_2, ex_3, ex_4, ex_5, ex_6, ex_7, ex_8, ex_9, ey_2, ey_3, ey_4, ey_5, ey_6, ey_7, ey_8, ey_9]
  have hlen := hl.len
  refine ⟨⟨0, by simp, by simp [prevR], rfl⟩, fun k hk he => ⟨fun hlt => ?_, fun hge => ?_⟩⟩
  · obtain ⟨m1, m2⟩ := hl.mem (getD_mem dR hlt)
    obtain ⟨e1, e2, e3⟩ := m_step hlt he
    refine ⟨hlt, m1, m2, e1, fun h1 => ⟨fun h4 => ?_, fun h4 => ⟨k + 1, hlt, e3 h1 (by rw [h4]; rfl), by omega, wrap_small (by omega) (by omega)⟩⟩⟩
    rw [wrap_small (by omega) (by omega)]
    have e : ((k : Int) - 1).toNat = k - 1 := by omega
    rw [e]
    have hb : beforeR (prevR m k) (m.getD k dR) = rowLess (m.getD (k - 1) dR) (m.getD k dR) := by
      unfold prevR; rw [if_neg (by omega)]; rfl
    exact ⟨by omega, by omega, by omega, hlt, (hl.mem (getD_mem dR (by omega))).2, fun h => e2 (by rw [hb, h]), fun h => ⟨k + 1, hlt, e3 h1 (by rw [hb, h]), by omega, wrap_small (by omega) (by omega)⟩⟩
  · rw [drop_end (by omega)] at he
    unfold mRight
    rw [he]
    simp only [mL, Bool.true_and]
    congr 1
    simp only [eq_iff_iff]; omega)

theorem k_iModel : SoundC Tryz.prog K_iModel.1 K_iModel.2 := sound_of hm ((CtxOK.nil.and k_compareRows).and k_rowOk) (fun x => A_iModel x) (by kernel_rfl) fun (m : Mdl) hl => (by
  rw [← vc_iModel m]
  replace hl : SmM m := hl
  simp [-List.getD_eq_getElem?_getD, -List.mem_cons, -Bool.forall_bool, -Bool.exists_bool, and_assoc, peta, tl_inj, ex_1, ex_2, ex_3, ex_4, ex_5, ex_6, ex_7, ex_8, ex_9, ey_2, ey_3, ey_4, ey_5, ey_6, ey_7, ey_8, ey_9]
  have hlen := hl.len
  refine ⟨fun h => by unfold mRight; rw [decide_eq_false (by omega : ¬ m.length ≤ 40)]; simp, fun h40 => ⟨⟨0, by simp, by simp [prevR], fun h => (h rfl).elim, rfl⟩, fun k hk he hp => ⟨fun hlt => ?_, fun hge => ?_⟩⟩⟩
  · obtain ⟨m1, m2⟩ := hl.mem (getD_mem dR hlt)
    obtain ⟨e1, e2, e3⟩ := m_step hlt he
    refine ⟨hlt, m1, m2, e1, fun h1 => ⟨fun h4 => ?_, fun h4 => ⟨k + 1, hlt, e3 h1 (by rw [h4]; rfl), fun _ => h1, by omega, wrap_small (by omega) (by omega)⟩⟩⟩
    rw [wrap_small (by omega) (by omega)]
    have e : ((k : Int) - 1).toNat = k - 1 := by omega
    rw [e]
    have hb : beforeR (prevR m k) (m.getD k dR) = rowLess (m.getD (k - 1) dR) (m.getD k dR) := by
      unfold prevR; rw [if_neg (by omega)]; rfl
    have hc := cmpRows_neg (hp (by omega)) h1
    have hz := (hl.mem (getD_mem dR (by omega : k - 1 < m.length))).2
    refine ⟨by omega, by omega, by omega, by omega, by omega, fun h => e2 ?_, fun h => ⟨k + 1, hlt, e3 h1 ?_, fun _ => h1, by omega, wrap_small (by omega) (by omega)⟩⟩
    · rw [hb]
      cases h2 : rowLess (m.getD (k - 1) dR) (m.getD k dR) with
      | false => rfl
      | true => have := hc.2 h2; omega
    · rw [hb]; exact hc.1 h
  · rw [drop_end (by omega)] at he
    unfold mRight
    rw [he, decide_eq_true (by omega : m.length ≤ 40)]
    rfl)

theorem fit_step {a : List Rt} {b : List Int} {k : Nat} (h1 : k < a.length) (h2 : k < b.length) : fitL (a.drop k) (b.drop k) = (fit (a.getD k dQ) (b.getD k 0) && fitL (a.drop (k + 1)) (b.drop (k + 1))) := by
  rw [drop_get dQ h1, drop_get 0 h2]; rfl
theorem fit_end {a : List Rt} {b : List Int} {k : Nat} (h1 : a.length ≤ k) : fitL (a.drop k) (b.drop k) = true := by
  rw [drop_end (by omega)]; cases b.drop k <;> rfl
theorem mL_mem : ∀ {m : Mdl} {p : Option Rw}, mL p m = true → ∀ y ∈ m, rowOk y = true
  | x :: m, p, h, y, hy => by
    simp only [mL, Bool.and_eq_true] at h
    rcases List.mem_cons.1 hy with e | e
    · subst e; exact h.1.1
    · exact mL_mem h.2 y e

theorem k_sModelOk : SoundC Tryz.prog K_sModelOk.1 K_sModelOk.2 := sound_of hm ((((CtxOK.nil.and k_l7Fit).and k_l4Find).and k_l7Right).and k_sSigOk) (fun x => A_sModelOk x.1 x.2) (by kernel_rfl) fun (x : Sig × Mdl) hl => (by
  rw [← vc_sModelOk x]
  obtain ⟨h1, h2⟩ : SmG x.1 ∧ SmM x.2 := hl
  obtain ⟨s, m⟩ := x
  dsimp only at *
  simp [-List.getD_eq_getElem?_getD, -List.mem_cons, -Bool.forall_bool, -Bool.exists_bool, and_assoc, peta, tl_inj, ex_1, ex_2, ex_3, ex_4, ex_5, ex_6, ex_7, ex_8, ex_9, ey_2, ey_3, ey_4, ey_5, ey_6, ey_7, ey_8, ey_9]
  have hlen := h2.len
  have nos : sigOk s = false → modelOk s m = false := fun h => by simp [modelOk, h]
  have nom : mRight m = false → modelOk s m = false := fun h => by simp [modelOk, h]
  refine ⟨h1, nos, fun hs => ⟨h2, nom, fun hm' => ⟨⟨0, by simp, by simp [modelOk, hs, hm'], rfl⟩, fun k hk he => ⟨fun hlt => ?_, fun hge => by rw [he, drop_end (by omega)]; rfl⟩⟩⟩⟩
  rw [drop_get dR hlt, List.all_cons] at he
  have hr := h2.mem (getD_mem dR hlt)
  generalize m.getD k dR = r at *
  have no : rowFits s r = false → modelOk s m = false := fun h => by rw [he, h]; rfl
  refine ⟨hlt, h1, fun h => no (by simp [rowFits, h]), fun hf => ⟨hlt, fun h => no ?_, fun hl2 => ⟨hlt, fun h => no (by simp [rowFits, h]), fun hv => ⟨hlt, ⟨0, by simp, by omega, ?_, rfl⟩, fun j _ hj _ hj2 => ⟨fun hjl => ?_, fun hge => ?_⟩⟩⟩⟩⟩
  · simp only [rowFits]; rw [decide_eq_false (by omega)]; simp
  · simp only [rowFits, List.drop_zero, hf, hv, Bool.true_and]; rw [decide_eq_true (by omega)]; simp
  · rw [fit_step (by omega) hjl] at hj2
    exact ⟨hlt, by omega, hjl, fun h => no (by rw [hj2, h]; rfl), fun h => ⟨hlt, j + 1, by omega, by omega, by rw [hj2, h]; rfl, by omega, wrap_small (by omega) (by omega)⟩⟩
  · rw [fit_end (by omega)] at hj2
    exact ⟨k + 1, hlt, by rw [he, hj2]; rfl, by omega, wrap_small (by omega) (by omega)⟩)
theorem k_iModelOk : SoundC Tryz.prog K_iModelOk.1 K_iModelOk.2 := sound_of hm ((((CtxOK.nil.and k_suits).and k_symbol).and k_iModel).and k_iSigOk) (fun x => A_iModelOk x.1 x.2) (by kernel_rfl) fun (x : Sig × Mdl) hl => (by
  rw [← vc_iModelOk x]
  obtain ⟨h1, h2⟩ : SmG x.1 ∧ SmM x.2 := hl
  obtain ⟨s, m⟩ := x
  dsimp only at *
  simp [-List.getD_eq_getElem?_getD, -List.mem_cons, -Bool.forall_bool, -Bool.exists_bool, and_assoc, peta, tl_inj, ex_1, ex_2, ex_3, ex_4, ex_5, ex_6, ex_7, ex_8, ex_9, ey_2, ey_3, ey_4, ey_5, ey_6, ey_7, ey_8, ey_9]
  have hlen := h2.len
  have nos : sigOk s = false → modelOk s m = false := fun h => by simp [modelOk, h]
  have nom : mRight m = false → modelOk s m = false := fun h => by simp [modelOk, h]
  have hmr : mRight m = true → mL none m = true := fun h => by unfold mRight at h; exact (Bool.and_eq_true _ _ ▸ h).1
  refine ⟨h1, nos, fun hs => ⟨h2, nom, fun hm' => ⟨⟨0, by simp, by simp [modelOk, hs, hm'], hmr hm', rfl⟩, fun k hk he hm2 => ⟨fun hlt => ?_, fun hge => by rw [he, drop_end (by omega)]; rfl⟩⟩⟩⟩
  rw [drop_get dR hlt, List.all_cons] at he
  have hr := h2.mem (getD_mem dR hlt)
  obtain ⟨_, _, q1, q2⟩ := rowOk_iff.1 (mL_mem hm2 _ (getD_mem dR hlt))
  generalize m.getD k dR = r at *
  have no : rowFits s r = false → modelOk s m = false := fun h => by rw [he, h]; rfl
  refine ⟨hlt, h1, fun h => no (by simp [rowFits, h]), fun hf => ⟨fun h => no ?_, fun hl2 => ⟨fun h => no (by simp [rowFits, fit, h]), fun hv => ⟨hlt, ⟨0, by simp, by omega, ?_, rfl⟩, fun j _ hj _ hj2 => ⟨fun hjl => ?_, fun hge => ?_⟩⟩⟩⟩⟩
  · simp only [rowFits]; rw [decide_eq_false (by omega)]; simp
  · simp only [rowFits, List.drop_zero, hf, fit, q1, hv, Bool.true_and]; rw [decide_eq_true (by omega)]; simp
  · rw [fit_step hjl (by omega)] at hj2
    have hq : ratOk (r.2.1.getD j dQ) = true := List.all_eq_true.1 q2 _ (getD_mem dQ hjl)
    simp only [fit, hq, Bool.true_and] at hj2
    exact ⟨hjl, by omega, fun h => no (by rw [hj2, h]; rfl), fun h => ⟨hlt, j + 1, by omega, by omega, by rw [hj2, h]; rfl, by omega, wrap_small (by omega) (by omega)⟩⟩
  · rw [fit_end (by omega)] at hj2
    exact ⟨k + 1, hlt, by rw [he, hj2]; rfl, hm2, by omega, wrap_small (by omega) (by omega)⟩)
end Cg

/-
  What is left to show of each function's code, printed by a program: Draw. No condition.
-/
set_option maxRecDepth 100000
set_option linter.unusedVariables false
namespace Cg
open Go Go.Proofs
theorem vc_l16Open (b : List Int) : (condP (Decidable.decide ((↑b.length : Int) > (2000 : Int)))
 (((0 : Int) ≤ (2000 : Int) ∧ (2000 : Int) ≤ (↑b.length : Int)) ∧
 Exists fun (y : List Int) => Rd (0 : Int) y (0 : Int) ∧ ((0 : Nat) = (0 : Nat) ∧ True) ∧ (Is (AV.sl (2000 : Nat) (1 : Nat) (cU b)) (byts y) ∧ (0 : Int) = (0 : Int) ∧ True) ∧ True)
 (Exists fun (y : List Int) => Rd (0 : Int) y (0 : Int) ∧ ((0 : Nat) = (0 : Nat) ∧ True) ∧ (Is (byts b) (byts y) ∧ (0 : Int) = (0 : Int) ∧ True) ∧ True)) = Goal Tryz.prog [] ([]) K_l16Open.1 K_l16Open.2 (b) := by kernel_rfl

theorem vc_pick (b : List Int) (p n : Int) : (condP (Decidable.decide (n < (1 : Int)))
 (Exists fun (y : Int) =>
 (((1 : Int) ≤ n → (0 : Int) ≤ y ∧ y < n) ∧ (n < (1 : Int) → y = (0 : Int))) ∧
 ((0 : Int) = y ∧ True) ∧ (Is (byts b) (byts b) ∧ IntKind.i64.wrap (p + (1 : Int)) = p + (1 : Int) ∧ True) ∧ True)
 (condP ((↑b.length : Int) == (0 : Int))
 (Exists fun (y : Int) =>
 (((1 : Int) ≤ n → (0 : Int) ≤ y ∧ y < n) ∧ (n < (1 : Int) → y = (0 : Int))) ∧
 ((0 : Int) = y ∧ True) ∧ (Is (byts b) (byts b) ∧ IntKind.i64.wrap (p + (1 : Int)) = p + (1 : Int) ∧ True) ∧ True)
 (condP (Decidable.decide (IntKind.i64.wrap (IntKind.i64.wrap (p + (1 : Int)) - (1 : Int)) < (↑b.length : Int)))
 (((0 : Int) ≤ IntKind.i64.wrap (IntKind.i64.wrap (p + (1 : Int)) - (1 : Int)) ∧ IntKind.i64.wrap (IntKind.i64.wrap (p + (1 : Int)) - (1 : Int)) < (↑b.length : Int)) ∧
 (IntKind.i64.wrap (IntKind.i64.wrap (p + (1 : Int)) - (1 : Int))).toNat < b.length ∧
 n ≠ (0 : Int) ∧
 Exists fun (y : Int) =>
 (((1 : Int) ≤ n → (0 : Int) ≤ y ∧ y < n) ∧ (n < (1 : Int) → y = (0 : Int))) ∧
 ((IntKind.i64.wrap (b.getD (IntKind.i64.wrap (IntKind.i64.wrap (p + (1 : Int)) - (1 : Int))).toNat (0 : Int))).tmod n = y ∧ True) ∧
 (Is (byts b) (byts b) ∧ IntKind.i64.wrap (p + (1 : Int)) = p + (1 : Int) ∧ True) ∧ True)
 ((↑b.length : Int) ≠ (0 : Int) ∧
 ((0 : Int) ≤ (IntKind.i64.wrap (IntKind.i64.wrap (p + (1 : Int)) - (1 : Int))).tmod (↑b.length : Int) ∧
 (IntKind.i64.wrap (IntKind.i64.wrap (p + (1 : Int)) - (1 : Int))).tmod (↑b.length : Int) < (↑b.length : Int)) ∧
 ((IntKind.i64.wrap (IntKind.i64.wrap (p + (1 : Int)) - (1 : Int))).tmod (↑b.length : Int)).toNat < b.length ∧
 (↑b.length : Int) ≠ (0 : Int) ∧
 ((0 : Int) ≤ (IntKind.i64.wrap (IntKind.i64.wrap (IntKind.i64.wrap (IntKind.i64.wrap (p + (1 : Int)) - (1 : Int)) * (7 : Int)) + (3 : Int))).tmod (↑b.length : Int) ∧
 (IntKind.i64.wrap (IntKind.i64.wrap (IntKind.i64.wrap (IntKind.i64.wrap (p + (1 : Int)) - (1 : Int)) * (7 : Int)) + (3 : Int))).tmod (↑b.length : Int) <
 (↑b.length : Int)) ∧
 ((IntKind.i64.wrap (IntKind.i64.wrap (IntKind.i64.wrap (IntKind.i64.wrap (p + (1 : Int)) - (1 : Int)) * (7 : Int)) + (3 : Int))).tmod (↑b.length : Int)).toNat < b.length ∧
 (↑b.length : Int) ≠ (0 : Int) ∧
 (64 : Int) ≠ (0 : Int) ∧
 n ≠ (0 : Int) ∧
 Exists fun (y : Int) =>
 (((1 : Int) ≤ n → (0 : Int) ≤ y ∧ y < n) ∧ (n < (1 : Int) → y = (0 : Int))) ∧
 ((IntKind.i64.wrap
 (↑(BitVec.ofInt (64 : Nat)
 (IntKind.i64.wrap
 (IntKind.i64.wrap
 (IntKind.i64.wrap
 (IntKind.i64.wrap
 (IntKind.i64.wrap
 (b.getD ((IntKind.i64.wrap (IntKind.i64.wrap (p + (1 : Int)) - (1 : Int))).tmod (↑b.length : Int)).toNat (0 : Int)) *
 (131 : Int)) +
 IntKind.i64.wrap
 (IntKind.i64.wrap
 (b.getD
 ((IntKind.i64.wrap
 (IntKind.i64.wrap (IntKind.i64.wrap (IntKind.i64.wrap (p + (1 : Int)) - (1 : Int)) * (7 : Int)) +
 (3 : Int))).tmod
 (↑b.length : Int)).toNat
 (0 : Int)) *
 (1117 : Int))) +
 IntKind.i64.wrap (IntKind.i64.wrap (IntKind.i64.wrap (p + (1 : Int)) - (1 : Int)) * (29 : Int))) +
 IntKind.i64.wrap
 (IntKind.i64.wrap ((IntKind.i64.wrap (IntKind.i64.wrap (p + (1 : Int)) - (1 : Int))).tdiv (↑b.length : Int)) * (53 : Int)))) ^^^
 BitVec.ofInt (64 : Nat)
 (IntKind.i64.wrap
 ((IntKind.i64.wrap
 (IntKind.i64.wrap
 (IntKind.i64.wrap
 (IntKind.i64.wrap
 (IntKind.i64.wrap
 (b.getD ((IntKind.i64.wrap (IntKind.i64.wrap (p + (1 : Int)) - (1 : Int))).tmod (↑b.length : Int)).toNat (0 : Int)) *
 (131 : Int)) +
 IntKind.i64.wrap
 (IntKind.i64.wrap
 (b.getD
 ((IntKind.i64.wrap
 (IntKind.i64.wrap (IntKind.i64.wrap (IntKind.i64.wrap (p + (1 : Int)) - (1 : Int)) * (7 : Int)) +
 (3 : Int))).tmod
 (↑b.length : Int)).toNat
 (0 : Int)) *
 (1117 : Int))) +
 IntKind.i64.wrap (IntKind.i64.wrap (IntKind.i64.wrap (p + (1 : Int)) - (1 : Int)) * (29 : Int))) +
 IntKind.i64.wrap
 (IntKind.i64.wrap ((IntKind.i64.wrap (IntKind.i64.wrap (p + (1 : Int)) - (1 : Int))).tdiv (↑b.length : Int)) * (53 : Int)))).tdiv
 (64 : Int)))).toNat :
 Int)).tmod
 n =
 y ∧
 True) ∧
 (Is (byts b) (byts b) ∧ IntKind.i64.wrap (p + (1 : Int)) = p + (1 : Int) ∧ True) ∧ True)))) = Goal Tryz.prog [] ([]) K_pick.1 K_pick.2 ((b, p, n)) := by kernel_rfl

theorem vc_num (b : List Int) (p : Int) (l : List Int) : (Exists fun (x : List Int × Int × Int) =>
 Rd (1099511627776 : Int) x.fst x.snd.fst ∧
 (((0 : Nat) = (0 : Nat) ∧ (↑l.length : Int) = x.snd.snd ∧ True) ∧ (Is (byts b) (byts x.fst) ∧ p = x.snd.fst ∧ True) ∧ True) ∧
 ∀ (y : Int),
 ((1 : Int) ≤ x.snd.snd → (0 : Int) ≤ y ∧ y < x.snd.snd) ∧ (x.snd.snd < (1 : Int) → y = (0 : Int)) →
 ((0 : Int) ≤ y ∧ y < (↑l.length : Int)) ∧
 y.toNat < l.length ∧
 Exists fun (y_1 : Int) => y_1 ∈ l ∧ (l.getD y.toNat (0 : Int) = y_1 ∧ True) ∧ (Is (byts x.fst) (byts b) ∧ x.snd.fst + (1 : Int) = p + (1 : Int) ∧ True) ∧ True) = Goal Tryz.prog [K_pick] ([]) K_num.1 K_num.2 ((b, p, l)) := by kernel_rfl

end Cg

/-
  What is left to show of each function's code, printed by a program: Units. No condition.
-/
set_option maxRecDepth 100000
set_option linter.unusedVariables false
namespace Cg
open Go Go.Proofs
end Cg

/-
  Unit propagation: plain laws. No condition.
-/
set_option linter.unusedVariables false
namespace Pl
open Go Cg

/-- A mark of at most sixty variables. -/
def Mk (x : Int) : Prop := x ≠ 0 ∧ -60 ≤ x ∧ x ≤ 60
theorem Mk.wneg {x : Int} (h : Mk x) : Pl.wneg x = -x := by
  obtain ⟨h1, h2, h3⟩ := h
  unfold Pl.wneg; rw [Cg.wrap_small (by omega) (by omega)]; omega
theorem absW_of {x : Int} (h : Mk x) : absW x = if x < 0 then -x else x := by
  obtain ⟨h1, h2, h3⟩ := h
  unfold absW Pl.wneg
  rw [if_neg (by omega), if_neg (by omega)]
  split
  · rw [Cg.wrap_small (by omega) (by omega)]; omega
  · rfl
theorem take_succ_getD {α : Type} (d : α) {l : List α} {i : Nat} (h : i < l.length) : l.take (i + 1) = l.take i ++ [l.getD i d] := by
  rw [List.take_succ_eq_append_getElem h]; simp [h]
end Pl

/-
  What is left to show of each function's code, printed by a program: Cnf. No condition.
-/
set_option maxRecDepth 100000
set_option linter.unusedVariables false
namespace Cg
open Go Go.Proofs
end Cg

/-
  The codes' contracts: clause sets. No condition.
-/
set_option linter.unusedVariables false
set_option linter.unusedSimpArgs false
set_option maxRecDepth 100000
namespace Cg
open Go Go.Proofs

end Cg

/-
  The codes' contracts: unit propagation. No condition.
-/
set_option linter.unusedVariables false
set_option linter.unusedSimpArgs false
set_option maxRecDepth 100000
namespace Cg
open Go Go.Proofs

end Cg

/-
  The codes' contracts: the reader. No condition.
-/
set_option linter.unusedVariables false
set_option linter.unusedSimpArgs false
set_option maxRecDepth 100000
namespace Cg
open Go Go.Proofs

theorem Rd.mono {m m' : Int} {b : List Int} {p : Int} (h : Rd m b p) (hm : m ≤ m') : Rd m' b p := ⟨h.1, h.2.1, h.2.2.1, Int.le_trans h.2.2.2 hm⟩
theorem Rd.add {m m' : Int} {b : List Int} {p p' : Int} (h : Rd m b p) (h1 : p ≤ p') (h2 : p' ≤ m') : Rd m' b p' := ⟨h.1, h.2.1, Int.le_trans h.2.2.1 h1, h2⟩

theorem k_l16Open : SoundC Tryz.prog K_l16Open.1 K_l16Open.2 := sound_of hm CtxOK.nil (fun _ => []) (by kernel_rfl) fun (b : List Int) hb => cast (vc_l16Open b) (by
  obtain ⟨h1, h2⟩ : Sz b ∧ Byt b := hb
  simp [-List.getD_eq_getElem?_getD, and_assoc]
  refine ⟨fun h => ⟨by omega, b.take 2000, ⟨by simp; omega, fun x hx => h2 x (List.mem_of_mem_take hx), Int.le_refl 0, Int.le_refl 0⟩, (byts_take (by omega)).2 rfl⟩, fun h => ⟨by omega, h2, Int.le_refl 0, Int.le_refl 0⟩⟩)

theorem xor_nonneg {E : Int} (h0 : 0 ≤ E) (h1 : E < 281474976710656) : 0 ≤ IntKind.i64.wrap ((BitVec.ofInt 64 E ^^^ BitVec.ofInt 64 (IntKind.i64.wrap (E.tdiv 64))).toNat : Int) := by
  have d1 : 0 ≤ E.tdiv 64 := Int.tdiv_nonneg h0 (by omega)
  have d2 : E.tdiv 64 ≤ E := Int.tdiv_le_self _ h0
  rw [wrap_small (x := E.tdiv 64) (by omega) (by omega)]
  have e : ∀ x : Int, 0 ≤ x → x < 281474976710656 → (BitVec.ofInt 64 x).toNat < 2 ^ 48 := fun x h h' => by
    rw [BitVec.toNat_ofInt]
    have : x % ((2 ^ 64 : Nat) : Int) = x := Int.emod_eq_of_lt h (by omega)
    rw [this]; omega
  have h : (BitVec.ofInt 64 E ^^^ BitVec.ofInt 64 (E.tdiv 64)).toNat < 2 ^ 48 := by
    rw [BitVec.toNat_xor]
    exact Nat.xor_lt_two_pow (e E h0 h1) (e _ d1 (by omega))
  rw [wrap_small (by omega) (by omega)]
  omega

set_option maxHeartbeats 2000000 in
theorem k_pick : SoundC Tryz.prog K_pick.1 K_pick.2 := sound_of hm CtxOK.nil (fun _ => []) (by kernel_rfl) fun (b, p, n) hb => cast (vc_pick b p n) (by
  obtain ⟨h1, h2, h3, h4⟩ : Rd 1099511627776 b p := hb
  rw [wrap_small (x := p + 1) (by omega) (by omega), show p + 1 - 1 = p by omega, wrap_small (x := p) (by omega) (by omega)]
  simp only [condP_iff, decide_eq_true_eq, decide_eq_false_iff_not, beq_iff_eq, beq_eq_false_iff_ne, ne_eq]
  refine ⟨fun h => ⟨0, ⟨fun h' => absurd h' (by omega), fun _ => rfl⟩, by simp⟩, fun h => ⟨fun h' => ⟨0, ⟨fun _ => ⟨by omega, by omega⟩, fun _ => rfl⟩, by simp⟩, fun h' => ?_⟩⟩
  have hL : (0 : Int) < b.length := by
    omega
  have byte : ∀ i, i < b.length → 0 ≤ b.getD i 0 ∧ b.getD i 0 < 256 := fun i hi => h2 _ (getD_mem 0 hi)
  have tm : ∀ x : Int, 0 ≤ x → 0 ≤ x.tmod b.length ∧ x.tmod b.length < b.length := fun x hx => ⟨Int.tmod_nonneg _ hx, Int.tmod_lt_of_pos _ hL⟩
  refine ⟨fun hlt => ?_, fun hge => ?_⟩
  · obtain ⟨b1, b2⟩ := byte p.toNat (by omega)
    refine ⟨⟨by omega, hlt⟩, by omega, by omega, _, ⟨fun _ => ⟨?_, ?_⟩, fun h'' => absurd h'' (by omega)⟩, ⟨rfl, trivial⟩, by simp⟩
    · rw [wrap_small (by omega) (by omega)]; exact Int.tmod_nonneg _ b1
    · exact Int.tmod_lt_of_pos _ (by omega)
  · have e1 : IntKind.i64.wrap (p * 7) = p * 7 := wrap_small (by omega) (by omega)
    have e2 : IntKind.i64.wrap (p * 7 + 3) = p * 7 + 3 := wrap_small (by omega) (by omega)
    simp only [e1, e2]
    obtain ⟨t1, t2⟩ := tm p h3
    obtain ⟨t3, t4⟩ := tm (p * 7 + 3) (by omega)
    obtain ⟨a1, a2⟩ := byte (p.tmod b.length).toNat (by omega)
    obtain ⟨a3, a4⟩ := byte ((p * 7 + 3).tmod b.length).toNat (by omega)
    have d1 : 0 ≤ p.tdiv b.length := Int.tdiv_nonneg h3 (by omega)
    have d2 : p.tdiv b.length ≤ p := Int.tdiv_le_self _ h3
    refine ⟨by omega, ⟨t1, t2⟩, by omega, by omega, ⟨t3, t4⟩, by omega, by omega, by omega, by omega, ?_⟩
    generalize b.getD (p.tmod b.length).toNat 0 = A at a1 a2 ⊢
    generalize b.getD ((p * 7 + 3).tmod b.length).toNat 0 = B at a3 a4 ⊢
    generalize p.tdiv b.length = D at d1 d2 ⊢
    have e3 : IntKind.i64.wrap A = A := wrap_small (by omega) (by omega)
    have e4 : IntKind.i64.wrap (A * 131) = A * 131 := wrap_small (by omega) (by omega)
    have e5 : IntKind.i64.wrap B = B := wrap_small (by omega) (by omega)
    have e6 : IntKind.i64.wrap (B * 1117) = B * 1117 := wrap_small (by omega) (by omega)
    have e7 : IntKind.i64.wrap (A * 131 + B * 1117) = A * 131 + B * 1117 := wrap_small (by omega) (by omega)
    have e8 : IntKind.i64.wrap (p * 29) = p * 29 := wrap_small (by omega) (by omega)
    have e9 : IntKind.i64.wrap (A * 131 + B * 1117 + p * 29) = A * 131 + B * 1117 + p * 29 := wrap_small (by omega) (by omega)
    have e10 : IntKind.i64.wrap D = D := wrap_small (by omega) (by omega)
    have e11 : IntKind.i64.wrap (D * 53) = D * 53 := wrap_small (by omega) (by omega)
    have e12 : IntKind.i64.wrap (A * 131 + B * 1117 + p * 29 + D * 53) = A * 131 + B * 1117 + p * 29 + D * 53 := wrap_small (by omega) (by omega)
    simp only [e3, e4, e5, e6, e7, e8, e9, e10, e11, e12]
    have hE : 0 ≤ A * 131 + B * 1117 + p * 29 + D * 53 ∧ A * 131 + B * 1117 + p * 29 + D * 53 < 281474976710656 := by omega
    generalize A * 131 + B * 1117 + p * 29 + D * 53 = E at hE
    refine ⟨_, ⟨fun _ => ⟨Int.tmod_nonneg _ (xor_nonneg hE.1 hE.2), Int.tmod_lt_of_pos _ (by omega)⟩, fun h'' => absurd h'' (by omega)⟩, ⟨rfl, trivial⟩, by simp⟩)

end Cg

/-
  Drawn clause sets: plain laws. No condition.
-/
set_option linter.unusedVariables false
set_option linter.unusedSimpArgs false
namespace Pl
open Go Cg

theorem lIs_neg {x : Int} {v : List Bool} (h0 : x ≠ 0) (h1 : x ≤ v.length) (h2 : -(v.length : Int) ≤ x) : lIs (-x) v = !lIs x v := by
  have e1 : ¬ (-x = 0 ∨ -x > (v.length : Int) ∨ -x < -(v.length : Int)) := by omega
  have e2 : ¬ (x = 0 ∨ x > (v.length : Int) ∨ x < -(v.length : Int)) := by omega
  unfold lIs
  rw [if_neg e1, if_neg e2]
  by_cases h : x < 0
  · have e3 : ¬ -x < 0 := by omega
    rw [if_neg e3, if_pos h, Bool.not_not]; congr 2; omega
  · have e3 : -x < 0 := by omega
    rw [if_pos e3, if_neg h]; congr 3; omega
theorem Mk.le_abs {x n : Int} (h : Mk x) (h1 : absW x ≤ n) : x ≤ n ∧ -n ≤ x := by
  rw [absW_of h] at h1
  split at h1 <;> omega
theorem Mk.lIs {x : Int} {v : List Bool} (h : Mk x) (h1 : absW x ≤ v.length) : Pl.lIs (Pl.wneg x) v = !Pl.lIs x v := by
  obtain ⟨h2, h3⟩ := h.le_abs h1
  rw [h.wneg]
  exact lIs_neg h.1 h2 h3

end Pl

/-
  The codes' contracts: drawn clause sets. No condition.
-/
set_option linter.unusedVariables false
set_option linter.unusedSimpArgs false
set_option maxRecDepth 100000
namespace Cg
open Go Go.Proofs

theorem k_num : SoundC Tryz.prog K_num.1 K_num.2 := sound_of hm (CtxOK.nil.and k_pick) (fun _ => []) (by kernel_rfl) fun (b, p, l) hb => cast (vc_num b p l) (by
  obtain ⟨h1, h2, h3⟩ : Rd 1099511627776 b p ∧ l ≠ [] ∧ Sz l := hb
  simp [-List.getD_eq_getElem?_getD, and_assoc]
  have hl : 0 < l.length := List.length_pos_iff.2 h2
  exact ⟨b, p, h1, rfl, rfl, fun y h4 h5 => by
    obtain ⟨h6, h7⟩ := h4 (by omega)
    exact ⟨h6, h7, by omega, _, getD_mem 0 (by omega), rfl, rfl, rfl⟩⟩)

end Cg

/-
  The codes' contracts: drawn clause sets, the rest. No condition.
-/
set_option linter.unusedVariables false
set_option linter.unusedSimpArgs false
set_option maxRecDepth 100000
namespace Cg
open Go Go.Proofs


theorem Rd.to {m m' : Int} {b : List Int} {p p' : Int} (h : Rd m b p) (h1 : 0 ≤ p') (h2 : p' ≤ m') : Rd m' b p' := ⟨h.1, h.2.1, h1, h2⟩
theorem Rds.two {v w : List Int} {a b : AV} (h1 : Is a (ints v)) (h2 : Is b (ints w)) : Rds 1 eII [] 2 (rowsCell [[a], [b]]) [v, w] := ⟨rfl, fun i hi j hj => by
  match i, j, hi, hj with
  | 0, 0, _, _ => exact h1
  | 1, 0, _, _ => exact h2⟩
theorem Rds.one {v : List Int} {a : AV} (h1 : Is a (ints v)) : Rds 1 eII [] 1 (rowsCell [[a]]) [v] := ⟨rfl, fun i hi j hj => by
  match i, j, hi, hj with
  | 0, 0, _, _ => exact h1⟩

theorem Sm.len {a : Int} {l : List (List Int)} (h : Sm (a, l)) : a ≤ 61 ∧ l.length ≤ 100 ∧ ∀ x ∈ l, x.length ≤ 100 := h
end Cg

/-
  The codes' contracts: laws of drawn clause sets. No condition.
-/
set_option linter.unusedVariables false
set_option linter.unusedSimpArgs false
set_option maxRecDepth 100000
namespace Cg
open Go Go.Proofs

theorem byt_of {l : List Int} (h : ∀ x ∈ l, (Lit.int .u8 x).wf = true) : Byt l := fun x hx => by
  have := h x hx
  simp [Lit.wf, IntKind.min, IntKind.max, IntKind.signed, IntKind.bits] at this
  omega
end Cg

/-
  The codes' contracts: drawn models. No condition.
-/
set_option linter.unusedVariables false
set_option linter.unusedSimpArgs false
set_option maxRecDepth 100000
namespace Cg
open Go Go.Proofs Pl
theorem map_range_get {α : Type} {L : List α} {r : α} (d : α) {x : Nat} (hx : x ≤ L.length) : (List.range x).map (fun i => (L ++ [r]).getD i d) = L.take x := by
  refine List.ext_getElem (by simp; omega) fun i h1 h2 => ?_
  have hi : i < x := by simpa using h1
  simp only [List.getElem_map, List.getElem_range, List.getElem_take]
  rw [getD_left d (by omega)]
  simp [show i < L.length by omega]
theorem map_range'_get {α : Type} {L : List α} {r : α} (d : α) {x : Nat} (hx : x ≤ L.length) : (List.range' x (L.length - x)).map (fun i => (L ++ [r]).getD i d) = L.drop x := by
  refine List.ext_getElem (by simp) fun i h1 h2 => ?_
  have hi : i < L.length - x := by simpa using h1
  simp only [List.getElem_map, List.getElem_range', List.getElem_drop]
  rw [getD_left d (by omega)]
  simp [show x + i < L.length by omega]
/-- The places, with the last one put in at x. -/
def insI (x n : Nat) : List Nat := List.range x ++ [n] ++ List.range' x (n - x)
theorem insI_len {x n : Nat} (h : x ≤ n) : (insI x n).length = n + 1 := by unfold insI; simp; omega
theorem hput_ins {x n : Nat} (h : x ≤ n) : HPut n (insI x n) := by
  refine ⟨by rw [insI_len h]; omega, ?_, fun i hi => ?_⟩
  · unfold insI
    rw [List.nodup_append, List.nodup_append]
    refine ⟨⟨List.nodup_range, by simp, fun a ha b hb => ?_⟩, List.nodup_range', fun a ha b hb => ?_⟩
    · have := List.mem_range.1 ha
      rw [List.mem_singleton.1 hb]; omega
    · obtain ⟨k, hk, rfl⟩ := List.mem_range'.1 hb
      rcases List.mem_append.1 ha with e | e
      · have := List.mem_range.1 e; omega
      · rw [List.mem_singleton.1 e]; omega
  · unfold insI at hi
    rcases List.mem_append.1 hi with e | e
    · rcases List.mem_append.1 e with e | e
      · have := List.mem_range.1 e; omega
      · rw [List.mem_singleton.1 e]; omega
    · obtain ⟨k, hk, rfl⟩ := List.mem_range'.1 e
      omega
theorem map_insI {α : Type} {L : List α} {r : α} (d : α) {x : Nat} (hx : x ≤ L.length) : (insI x L.length).map (fun i => (L ++ [r]).getD i d) = L.take x ++ [r] ++ L.drop x := by
  unfold insI
  rw [List.map_append, List.map_append, map_range_get d hx, map_range'_get d hx]
  simp only [List.map_cons, List.map_nil, getD_last d]
theorem row_rH {r : HRw} {j : Nat} (hj : j < 4) : Is ([st r.snd.fst, hdQ r.fst r.snd.snd.fst, i64 r.snd.snd.snd.fst, i64 r.snd.snd.snd.snd].getD j .any) (eRH r j) := by
  match j, hj with
  | 0, _ => exact EncN.eRH.self r (j := 0) (by decide)
  | 1, _ => exact EncN.eRH.self r (j := 1) (by decide)
  | 2, _ => exact EncN.eRH.self r (j := 2) (by decide)
  | 3, _ => exact EncN.eRH.self r (j := 3) (by decide)
theorem k_l7Put : SoundC Tryz.prog K_l7Put.1 K_l7Put.2 := sound_of hm ((CtxOK.nil.and k_l7Rats).and k_l7Less) (fun (L, r) => A_l7Put L r) (by kernel_rfl) fun (L, r) hb => (by
  obtain ⟨h1, h2, h3⟩ : L.length ≤ 1000 ∧ (∀ y ∈ L, y.2.2.1.length ≤ 1000) ∧ r.2.2.1.length ≤ 1000 := hb
  rw [← vc_l7Put L r]
  simp [-List.getD_eq_getElem?_getD, -List.mem_cons, -Bool.forall_bool, -Bool.exists_bool, and_assoc, peta, tl_inj, ex_1, ex_2, ex_3, ex_4, ex_5, ex_6, ex_7, ex_8, ex_9, ey_2, ey_3, ey_4, ey_5, ey_6, ey_7, ey_8, ey_9]
  have same : ∃ y, HPut L.length y ∧ L.length = y.length ∧ (y = [] ∨ L = List.map (fun i => (L ++ [r]).getD i dH) y) :=
    ⟨List.range L.length, ⟨by simp, List.nodup_range, fun i hi => by have := List.mem_range.1 hi; omega⟩, by simp, .inr (by rw [map_range_get dH (Nat.le_refl _), List.take_length])⟩
  have fin : ∀ x, x ≤ L.length → x ≤ L.length ∧ x + (L.length - x) ≤ L.length ∧ (L.length - x) * 56 ≤ 70368744177664 ∧ x ≤ L.length ∧ x * 56 ≤ 70368744177664 ∧ (x + 1) * 56 ≤ 70368744177664 ∧ (x + 1 + (L.length - x)) * 56 ≤ 70368744177664 ∧
      ∃ y, HPut L.length y ∧ x + 1 + (L.length - x) = y.length ∧ IsO (AObj.arr (x + 1 + (L.length - x)) 4 (joinC (x + 1) (fun i j => joinC x (cRH L) (rowsCell [[st r.snd.fst, hdQ r.fst r.snd.snd.fst, i64 r.snd.snd.snd.fst, i64 r.snd.snd.snd.snd]]) i j) fun i j => joinC 0 (rowsCell []) (fun i j => eRH (L.getD (i + x) dH) j) i j)) (arRH (List.map (fun i => (L ++ [r]).getD i dH) y)) := fun x hx => by
    refine ⟨hx, by omega, by omega, hx, by omega, by omega, by omega, insI x L.length, hput_ins hx, by rw [insI_len hx]; omega, ?_⟩
    rw [map_insI dH hx]
    have hR := ((Rds.take (d := dH) EncN.eRH hx).join (Rds.row (v := r) (IsR_row EncN.eRH fun j hj => row_rH hj))).join ((Rds.nil (c := rowsCell [])).join (Rds.drop EncN.eRH L x))
    exact (hR.cong (n' := x + 1 + (L.length - x)) (by omega) rfl (by simp)).iso
  refine ⟨⟨0, by omega, rfl⟩, fun x hx => ⟨fun hlt => ?_, fun hge => ?_⟩⟩
  · have h4 := h2 _ (getD_mem dH hlt)
    exact ⟨hlt, by omega, fun _ => ⟨x + 1, by omega, by omega, wrap_succ hlt (by omega)⟩, fun _ => ⟨fun _ => ⟨hlt, fun _ => ⟨hlt, by omega, fun _ => same, fun _ => fin x hx⟩, fun _ => fin x hx⟩, fun _ => fin x hx⟩⟩
  · exact ⟨fun h => absurd h (by omega), fun _ => fin x hx⟩)
theorem k_l7PutX : SoundC Tryz.prog K_l7PutX.1 K_l7PutX.2 := put_own k_l7Put
end Cg

/-
  What is left to show of each function's code, printed by a program: Mlt. No condition.
-/
set_option maxRecDepth 100000
set_option linter.unusedVariables false
namespace Cg
open Go Go.Proofs
theorem vc_l1Least (x : Int × Int) : (condP (Decidable.decide (x.fst < (0 : Int)))
 (Exists fun (x_1 : Nat × Nat) =>
 (IntKind.i64.wrap ((0 : Int) - x.fst) = (↑x_1.fst : Int) ∧ x.snd = (↑x_1.snd : Int) ∧ True) ∧
 (x_1.fst ≤ (4611686018427387904 : Nat) ∧ x_1.snd ≤ (4611686018427387904 : Nat)) ∧
 (↑(x_1.fst.gcd x_1.snd) : Int) ≠ (0 : Int) ∧
 (↑(x_1.fst.gcd x_1.snd) : Int) ≠ (0 : Int) ∧
 Exists fun (x_2 : Pl.Rt) =>
 ((IntKind.i64.wrap (x.fst.tdiv (↑(x_1.fst.gcd x_1.snd) : Int)) = x_2.fst ∧ IntKind.i64.wrap (x.snd.tdiv (↑(x_1.fst.gcd x_1.snd) : Int)) = x_2.snd ∧ True) ∧ True) ∧
 True ∧
 condP (!Pl.ratOk x_2)
 (((0 : Int) = (Pl.ratV (Pl.least x.fst x.snd)).fst ∧ (0 : Int) = (Pl.ratV (Pl.least x.fst x.snd)).snd ∧ True) ∧ Bool.false = (Pl.least x.fst x.snd).isSome ∧ True)
 ((IntKind.i64.wrap (x.fst.tdiv (↑(x_1.fst.gcd x_1.snd) : Int)) = (Pl.ratV (Pl.least x.fst x.snd)).fst ∧
 IntKind.i64.wrap (x.snd.tdiv (↑(x_1.fst.gcd x_1.snd) : Int)) = (Pl.ratV (Pl.least x.fst x.snd)).snd ∧ True) ∧
 Bool.true = (Pl.least x.fst x.snd).isSome ∧ True))
 (Exists fun (x_1 : Nat × Nat) =>
 (x.fst = (↑x_1.fst : Int) ∧ x.snd = (↑x_1.snd : Int) ∧ True) ∧
 (x_1.fst ≤ (4611686018427387904 : Nat) ∧ x_1.snd ≤ (4611686018427387904 : Nat)) ∧
 (↑(x_1.fst.gcd x_1.snd) : Int) ≠ (0 : Int) ∧
 (↑(x_1.fst.gcd x_1.snd) : Int) ≠ (0 : Int) ∧
 Exists fun (x_2 : Pl.Rt) =>
 ((IntKind.i64.wrap (x.fst.tdiv (↑(x_1.fst.gcd x_1.snd) : Int)) = x_2.fst ∧ IntKind.i64.wrap (x.snd.tdiv (↑(x_1.fst.gcd x_1.snd) : Int)) = x_2.snd ∧ True) ∧ True) ∧
 True ∧
 condP (!Pl.ratOk x_2)
 (((0 : Int) = (Pl.ratV (Pl.least x.fst x.snd)).fst ∧ (0 : Int) = (Pl.ratV (Pl.least x.fst x.snd)).snd ∧ True) ∧ Bool.false = (Pl.least x.fst x.snd).isSome ∧ True)
 ((IntKind.i64.wrap (x.fst.tdiv (↑(x_1.fst.gcd x_1.snd) : Int)) = (Pl.ratV (Pl.least x.fst x.snd)).fst ∧
 IntKind.i64.wrap (x.snd.tdiv (↑(x_1.fst.gcd x_1.snd) : Int)) = (Pl.ratV (Pl.least x.fst x.snd)).snd ∧ True) ∧
 Bool.true = (Pl.least x.fst x.snd).isSome ∧ True))) = Goal Tryz.prog [K_l1Gcd, K_sRatOk] ([]) K_l1Least.1 K_l1Least.2 (x) := by kernel_rfl

theorem vc_ratOf (x : Int × Int) : (condP (x.snd == (0 : Int)) (((0 : Int) = (Pl.ratV (Pl.least x.fst x.snd)).fst ∧ (0 : Int) = (Pl.ratV (Pl.least x.fst x.snd)).snd ∧ True) ∧ Bool.false = (Pl.least x.fst x.snd).isSome ∧ True)
 (condP (Decidable.decide (x.snd < (0 : Int)))
 (Exists fun (x_1 : Int × Int) =>
 (IntKind.i64.wrap ((0 : Int) - x.fst) = x_1.fst ∧ IntKind.i64.wrap ((0 : Int) - x.snd) = x_1.snd ∧ True) ∧
 (x_1.fst.natAbs ≤ (4611686018427387904 : Nat) ∧ x_1.snd.natAbs ≤ (4611686018427387904 : Nat)) ∧
 (↑(x_1.fst.natAbs.gcd x_1.snd.natAbs) : Int) ≠ (0 : Int) ∧
 (↑(x_1.fst.natAbs.gcd x_1.snd.natAbs) : Int) ≠ (0 : Int) ∧
 Exists fun (x_2 : Pl.Rt) =>
 ((IntKind.i64.wrap ((IntKind.i64.wrap ((0 : Int) - x.fst)).tdiv (↑(x_1.fst.natAbs.gcd x_1.snd.natAbs) : Int)) = x_2.fst ∧
 IntKind.i64.wrap ((IntKind.i64.wrap ((0 : Int) - x.snd)).tdiv (↑(x_1.fst.natAbs.gcd x_1.snd.natAbs) : Int)) = x_2.snd ∧ True) ∧
 True) ∧
 True ∧
 condP (!Pl.ratOk x_2)
 (((0 : Int) = (Pl.ratV (Pl.least x.fst x.snd)).fst ∧ (0 : Int) = (Pl.ratV (Pl.least x.fst x.snd)).snd ∧ True) ∧ Bool.false = (Pl.least x.fst x.snd).isSome ∧ True)
 ((IntKind.i64.wrap ((IntKind.i64.wrap ((0 : Int) - x.fst)).tdiv (↑(x_1.fst.natAbs.gcd x_1.snd.natAbs) : Int)) = (Pl.ratV (Pl.least x.fst x.snd)).fst ∧
 IntKind.i64.wrap ((IntKind.i64.wrap ((0 : Int) - x.snd)).tdiv (↑(x_1.fst.natAbs.gcd x_1.snd.natAbs) : Int)) = (Pl.ratV (Pl.least x.fst x.snd)).snd ∧ True) ∧
 Bool.true = (Pl.least x.fst x.snd).isSome ∧ True))
 (Exists fun (x_1 : Int × Int) =>
 (x.fst = x_1.fst ∧ x.snd = x_1.snd ∧ True) ∧
 (x_1.fst.natAbs ≤ (4611686018427387904 : Nat) ∧ x_1.snd.natAbs ≤ (4611686018427387904 : Nat)) ∧
 (↑(x_1.fst.natAbs.gcd x_1.snd.natAbs) : Int) ≠ (0 : Int) ∧
 (↑(x_1.fst.natAbs.gcd x_1.snd.natAbs) : Int) ≠ (0 : Int) ∧
 Exists fun (x_2 : Pl.Rt) =>
 ((IntKind.i64.wrap (x.fst.tdiv (↑(x_1.fst.natAbs.gcd x_1.snd.natAbs) : Int)) = x_2.fst ∧
 IntKind.i64.wrap (x.snd.tdiv (↑(x_1.fst.natAbs.gcd x_1.snd.natAbs) : Int)) = x_2.snd ∧ True) ∧
 True) ∧
 True ∧
 condP (!Pl.ratOk x_2)
 (((0 : Int) = (Pl.ratV (Pl.least x.fst x.snd)).fst ∧ (0 : Int) = (Pl.ratV (Pl.least x.fst x.snd)).snd ∧ True) ∧ Bool.false = (Pl.least x.fst x.snd).isSome ∧ True)
 ((IntKind.i64.wrap (x.fst.tdiv (↑(x_1.fst.natAbs.gcd x_1.snd.natAbs) : Int)) = (Pl.ratV (Pl.least x.fst x.snd)).fst ∧
 IntKind.i64.wrap (x.snd.tdiv (↑(x_1.fst.natAbs.gcd x_1.snd.natAbs) : Int)) = (Pl.ratV (Pl.least x.fst x.snd)).snd ∧ True) ∧
 Bool.true = (Pl.least x.fst x.snd).isSome ∧ True)))) = Goal Tryz.prog [K_gcd, K_iRatOk] ([]) K_ratOf.1 K_ratOf.2 (x) := by kernel_rfl

theorem vc_iRatAdd (x : Pl.Rt × Pl.Rt) : (Exists fun (x_1 : Pl.Rt) =>
 ((x.fst.fst = x_1.fst ∧ x.fst.snd = x_1.snd ∧ True) ∧ True) ∧
 True ∧
 condP (!Pl.ratOk x_1) (((0 : Int) = (Pl.ratV (Pl.ratAdd x.fst x.snd)).fst ∧ (0 : Int) = (Pl.ratV (Pl.ratAdd x.fst x.snd)).snd ∧ True) ∧ Bool.false = (Pl.ratAdd x.fst x.snd).isSome ∧ True)
 (Exists fun (x_2 : Pl.Rt) =>
 ((x.snd.fst = x_2.fst ∧ x.snd.snd = x_2.snd ∧ True) ∧ True) ∧
 True ∧
 condP (!Pl.ratOk x_2)
 (((0 : Int) = (Pl.ratV (Pl.ratAdd x.fst x.snd)).fst ∧ (0 : Int) = (Pl.ratV (Pl.ratAdd x.fst x.snd)).snd ∧ True) ∧ Bool.false = (Pl.ratAdd x.fst x.snd).isSome ∧ True)
 (Exists fun (x_3 : Int × Int) =>
 (IntKind.i64.wrap (IntKind.i64.wrap (x.fst.fst * x.snd.snd) + IntKind.i64.wrap (x.snd.fst * x.fst.snd)) = x_3.fst ∧
 IntKind.i64.wrap (x.fst.snd * x.snd.snd) = x_3.snd ∧ True) ∧
 (x_3.fst.natAbs ≤ (2000000000000000000 : Nat) ∧ (1 : Int) ≤ x_3.snd ∧ x_3.snd ≤ (1000000000000000000 : Int)) ∧
 ((Pl.ratV (Pl.least x_3.fst x_3.snd)).fst = (Pl.ratV (Pl.ratAdd x.fst x.snd)).fst ∧ (Pl.ratV (Pl.least x_3.fst x_3.snd)).snd = (Pl.ratV (Pl.ratAdd x.fst x.snd)).snd ∧ True) ∧
 (Pl.least x_3.fst x_3.snd).isSome = (Pl.ratAdd x.fst x.snd).isSome ∧ True))) = Goal Tryz.prog [K_iRatOk, K_ratOf] ([]) K_iRatAdd.1 K_iRatAdd.2 (x) := by kernel_rfl

theorem vc_iRatMul (x : Pl.Rt × Pl.Rt) : (Exists fun (x_1 : Pl.Rt) =>
 ((x.fst.fst = x_1.fst ∧ x.fst.snd = x_1.snd ∧ True) ∧ True) ∧
 True ∧
 condP (!Pl.ratOk x_1) (((0 : Int) = (Pl.ratV (Pl.ratMul x.fst x.snd)).fst ∧ (0 : Int) = (Pl.ratV (Pl.ratMul x.fst x.snd)).snd ∧ True) ∧ Bool.false = (Pl.ratMul x.fst x.snd).isSome ∧ True)
 (Exists fun (x_2 : Pl.Rt) =>
 ((x.snd.fst = x_2.fst ∧ x.snd.snd = x_2.snd ∧ True) ∧ True) ∧
 True ∧
 condP (!Pl.ratOk x_2)
 (((0 : Int) = (Pl.ratV (Pl.ratMul x.fst x.snd)).fst ∧ (0 : Int) = (Pl.ratV (Pl.ratMul x.fst x.snd)).snd ∧ True) ∧ Bool.false = (Pl.ratMul x.fst x.snd).isSome ∧ True)
 (Exists fun (x_3 : Int × Int) =>
 (IntKind.i64.wrap (x.fst.fst * x.snd.fst) = x_3.fst ∧ IntKind.i64.wrap (x.fst.snd * x.snd.snd) = x_3.snd ∧ True) ∧
 (x_3.fst.natAbs ≤ (2000000000000000000 : Nat) ∧ (1 : Int) ≤ x_3.snd ∧ x_3.snd ≤ (1000000000000000000 : Int)) ∧
 ((Pl.ratV (Pl.least x_3.fst x_3.snd)).fst = (Pl.ratV (Pl.ratMul x.fst x.snd)).fst ∧ (Pl.ratV (Pl.least x_3.fst x_3.snd)).snd = (Pl.ratV (Pl.ratMul x.fst x.snd)).snd ∧ True) ∧
 (Pl.least x_3.fst x_3.snd).isSome = (Pl.ratMul x.fst x.snd).isSome ∧ True))) = Goal Tryz.prog [K_iRatOk, K_ratOf] ([]) K_iRatMul.1 K_iRatMul.2 (x) := by kernel_rfl

theorem vc_plus (x : Pl.Rt × Int × Pl.Rt) : (Exists fun (x_1 : Int) =>
 (x.snd.fst = x_1 ∧ True) ∧
 True ∧
 Exists fun (x_2 : Pl.Rt × Pl.Rt) =>
 ((x_1 = x_2.fst.fst ∧ Int.ofNat ((1 : Nat)) = x_2.fst.snd ∧ True) ∧ (x.snd.snd.fst = x_2.snd.fst ∧ x.snd.snd.snd = x_2.snd.snd ∧ True) ∧ True) ∧
 True ∧
 condP (!(Pl.ratMul x_2.fst x_2.snd).isSome)
 (((0 : Int) = (Pl.ratV (Pl.plusV x.fst x.snd.fst x.snd.snd)).fst ∧ (0 : Int) = (Pl.ratV (Pl.plusV x.fst x.snd.fst x.snd.snd)).snd ∧ True) ∧
 Bool.false = (Pl.plusV x.fst x.snd.fst x.snd.snd).isSome ∧ True)
 (Exists fun (x_3 : Pl.Rt × Pl.Rt) =>
 ((x.fst.fst = x_3.fst.fst ∧ x.fst.snd = x_3.fst.snd ∧ True) ∧
 ((Pl.ratV (Pl.ratMul x_2.fst x_2.snd)).fst = x_3.snd.fst ∧ (Pl.ratV (Pl.ratMul x_2.fst x_2.snd)).snd = x_3.snd.snd ∧ True) ∧ True) ∧
 True ∧
 ((Pl.ratV (Pl.ratAdd x_3.fst x_3.snd)).fst = (Pl.ratV (Pl.plusV x.fst x.snd.fst x.snd.snd)).fst ∧
 (Pl.ratV (Pl.ratAdd x_3.fst x_3.snd)).snd = (Pl.ratV (Pl.plusV x.fst x.snd.fst x.snd.snd)).snd ∧ True) ∧
 (Pl.ratAdd x_3.fst x_3.snd).isSome = (Pl.plusV x.fst x.snd.fst x.snd.snd).isSome ∧ True)) = Goal Tryz.prog [K_whole, K_iRatMul, K_iRatAdd] ([]) K_plus.1 K_plus.2 (x) := by kernel_rfl

theorem vc_below (x : Pl.Rt × Int × Bool) : (condP x.snd.snd
 (Exists fun (x_1 : Int) =>
 (x.snd.fst = x_1 ∧ True) ∧
 True ∧
 Exists fun (x_2 : Pl.Rt × Pl.Rt) =>
 ((x.fst.fst = x_2.fst.fst ∧ x.fst.snd = x_2.fst.snd ∧ True) ∧ (x_1 = x_2.snd.fst ∧ Int.ofNat ((1 : Nat)) = x_2.snd.snd ∧ True) ∧ True) ∧
 True ∧ Pl.ratLess x_2.fst x_2.snd = Pl.under x.fst x.snd.fst x.snd.snd)
 (Exists fun (x_1 : Int) =>
 (x.snd.fst = x_1 ∧ True) ∧
 True ∧
 Exists fun (x_2 : Pl.Rt × Pl.Rt) =>
 ((x_1 = x_2.fst.fst ∧ Int.ofNat ((1 : Nat)) = x_2.fst.snd ∧ True) ∧ (x.fst.fst = x_2.snd.fst ∧ x.fst.snd = x_2.snd.snd ∧ True) ∧ True) ∧
 True ∧ (!Pl.ratLess x_2.fst x_2.snd) = Pl.under x.fst x.snd.fst x.snd.snd)) = Goal Tryz.prog [K_whole, K_iRatLess] ([]) K_below.1 K_below.2 (x) := by kernel_rfl

theorem vc_atomV (x : Pl.Mdl × Pl.Atm) : (condP (x.snd.fst == (1 : Int))
 (Exists fun (x_1 : Pl.Mdl × Pl.TP) =>
 ((Is (mrows x.fst) (mrows x_1.fst) ∧ True) ∧ (x.snd.snd.fst.fst = x_1.snd.fst ∧ Is (terms x.snd.snd.fst.snd) (terms x_1.snd.snd) ∧ True) ∧ True) ∧
 (Pl.mL Option.none x_1.fst = Bool.true ∧ SmM x_1.fst ∧ SmT (Pl.Tree.mk x_1.snd.fst x_1.snd.snd)) ∧
 Exists fun (x_2 : Pl.Mdl × Pl.TP) =>
 ((Is (mrows x.fst) (mrows x_2.fst) ∧ True) ∧ (x.snd.snd.snd.fst.fst = x_2.snd.fst ∧ Is (terms x.snd.snd.snd.fst.snd) (terms x_2.snd.snd) ∧ True) ∧ True) ∧
 (Pl.mL Option.none x_2.fst = Bool.true ∧ SmM x_2.fst ∧ SmT (Pl.Tree.mk x_2.snd.fst x_2.snd.snd)) ∧
 ((Pl.valT x_1.fst (Pl.Tree.mk x_1.snd.fst x_1.snd.snd)).fst == (Pl.valT x_2.fst (Pl.Tree.mk x_2.snd.fst x_2.snd.snd)).fst &&
 (Pl.valT x_1.fst (Pl.Tree.mk x_1.snd.fst x_1.snd.snd)).snd == (Pl.valT x_2.fst (Pl.Tree.mk x_2.snd.fst x_2.snd.snd)).snd) =
 (Pl.atomV x.fst x.snd).fst ∧
 Bool.true = (Pl.atomV x.fst x.snd).snd ∧ True)
 (Exists fun (x_1 : Int) =>
 ((0 : Int) = x_1 ∧ True) ∧
 True ∧
 (Exists fun (x_2 : Nat × Pl.Rt) =>
 (¬x.snd.fst = (1 : Int) ∧
 x_2.fst ≤ x.snd.snd.snd.snd.fst.length ∧
 Pl.ratOk x_2.snd = Bool.true ∧
 Pl.sumS x.fst ((0 : Int), (1 : Int)) x.snd.snd.snd.snd.fst x.snd.snd.snd.snd.snd.fst =
 Pl.sumS x.fst x_2.snd (List.drop x_2.fst x.snd.snd.snd.snd.fst) (List.drop x_2.fst x.snd.snd.snd.snd.snd.fst)) ∧
 ((0 : Nat) = (0 : Nat) ∧
 (0 : Nat) = (0 : Nat) ∧
 (0 : Nat) = (0 : Nat) ∧
 Is (terms x.snd.snd.snd.snd.fst) (terms x.snd.snd.snd.snd.fst) ∧
 (↑x.snd.snd.snd.snd.fst.length : Int) = (↑x.snd.snd.snd.snd.fst.length : Int) ∧ (0 : Int) = (↑x_2.fst : Int) ∧ True) ∧
 (Is (mrows x.fst) (mrows x.fst) ∧ True) ∧
 (x.snd.fst = x.snd.fst ∧
 x.snd.snd.fst.fst = x.snd.snd.fst.fst ∧
 Is (terms x.snd.snd.fst.snd) (terms x.snd.snd.fst.snd) ∧
 x.snd.snd.snd.fst.fst = x.snd.snd.snd.fst.fst ∧
 Is (terms x.snd.snd.snd.fst.snd) (terms x.snd.snd.snd.fst.snd) ∧
 Is (terms x.snd.snd.snd.snd.fst) (terms x.snd.snd.snd.snd.fst) ∧
 Is (ints x.snd.snd.snd.snd.snd.fst) (ints x.snd.snd.snd.snd.snd.fst) ∧
 x.snd.snd.snd.snd.snd.snd.fst = x.snd.snd.snd.snd.snd.snd.fst ∧ x.snd.snd.snd.snd.snd.snd.snd = x.snd.snd.snd.snd.snd.snd.snd ∧ True) ∧
 (x_1 = x_2.snd.fst ∧ Int.ofNat ((1 : Nat)) = x_2.snd.snd ∧ True) ∧ True) ∧
 ∀ (x_2 : Nat × Pl.Rt),
 ¬x.snd.fst = (1 : Int) ∧
 x_2.fst ≤ x.snd.snd.snd.snd.fst.length ∧
 Pl.ratOk x_2.snd = Bool.true ∧
 Pl.sumS x.fst ((0 : Int), (1 : Int)) x.snd.snd.snd.snd.fst x.snd.snd.snd.snd.snd.fst =
 Pl.sumS x.fst x_2.snd (List.drop x_2.fst x.snd.snd.snd.snd.fst) (List.drop x_2.fst x.snd.snd.snd.snd.snd.fst) →
 condP (Decidable.decide ((↑x_2.fst : Int) < (↑x.snd.snd.snd.snd.fst.length : Int)))
 (((0 : Int) ≤ (↑x_2.fst : Int) ∧ (↑x_2.fst : Int) < (↑x.snd.snd.snd.snd.fst.length : Int)) ∧
 x_2.fst < x.snd.snd.snd.snd.fst.length ∧
 ((0 : Int) ≤ (↑x_2.fst : Int) ∧ (↑x_2.fst : Int) < (↑x.snd.snd.snd.snd.snd.fst.length : Int)) ∧
 x_2.fst < x.snd.snd.snd.snd.snd.fst.length ∧
 Exists fun (x_3 : Pl.Mdl × Pl.TP) =>
 ((Is (mrows x.fst) (mrows x_3.fst) ∧ True) ∧
 (Pl.Tree.val (x.snd.snd.snd.snd.fst.getD x_2.fst Pl.dT) = x_3.snd.fst ∧ Is (kidsT (x.snd.snd.snd.snd.fst.getD x_2.fst Pl.dT)) (terms x_3.snd.snd) ∧ True) ∧
 True) ∧
 (Pl.mL Option.none x_3.fst = Bool.true ∧ SmM x_3.fst ∧ SmT (Pl.Tree.mk x_3.snd.fst x_3.snd.snd)) ∧
 Exists fun (x_4 : Pl.Rt × Int × Pl.Rt) =>
 ((x_2.snd.fst = x_4.fst.fst ∧ x_2.snd.snd = x_4.fst.snd ∧ True) ∧
 x.snd.snd.snd.snd.snd.fst.getD x_2.fst (0 : Int) = x_4.snd.fst ∧
 ((Pl.valT x_3.fst (Pl.Tree.mk x_3.snd.fst x_3.snd.snd)).fst = x_4.snd.snd.fst ∧
 (Pl.valT x_3.fst (Pl.Tree.mk x_3.snd.fst x_3.snd.snd)).snd = x_4.snd.snd.snd ∧ True) ∧
 True) ∧
 True ∧
 condP (!(Pl.plusV x_4.fst x_4.snd.fst x_4.snd.snd).isSome) (Bool.false = (Pl.atomV x.fst x.snd).fst ∧ Bool.false = (Pl.atomV x.fst x.snd).snd ∧ True)
 (Exists fun (x' : Nat × Pl.Rt) =>
 (¬x.snd.fst = (1 : Int) ∧
 x'.fst ≤ x.snd.snd.snd.snd.fst.length ∧
 Pl.ratOk x'.snd = Bool.true ∧
 Pl.sumS x.fst ((0 : Int), (1 : Int)) x.snd.snd.snd.snd.fst x.snd.snd.snd.snd.snd.fst =
 Pl.sumS x.fst x'.snd (List.drop x'.fst x.snd.snd.snd.snd.fst) (List.drop x'.fst x.snd.snd.snd.snd.snd.fst)) ∧
 x.snd.snd.snd.snd.fst.length - x'.fst < x.snd.snd.snd.snd.fst.length - x_2.fst ∧
 ((0 : Nat) = (0 : Nat) ∧
 (0 : Nat) = (0 : Nat) ∧
 (0 : Nat) = (0 : Nat) ∧
 Is (terms x.snd.snd.snd.snd.fst) (terms x.snd.snd.snd.snd.fst) ∧
 (↑x.snd.snd.snd.snd.fst.length : Int) = (↑x.snd.snd.snd.snd.fst.length : Int) ∧
 IntKind.i64.wrap ((↑x_2.fst : Int) + (1 : Int)) = (↑x'.fst : Int) ∧ True) ∧
 (Is (mrows x.fst) (mrows x.fst) ∧ True) ∧
 (x.snd.fst = x.snd.fst ∧
 x.snd.snd.fst.fst = x.snd.snd.fst.fst ∧
 Is (terms x.snd.snd.fst.snd) (terms x.snd.snd.fst.snd) ∧
 x.snd.snd.snd.fst.fst = x.snd.snd.snd.fst.fst ∧
 Is (terms x.snd.snd.snd.fst.snd) (terms x.snd.snd.snd.fst.snd) ∧
 Is (terms x.snd.snd.snd.snd.fst) (terms x.snd.snd.snd.snd.fst) ∧
 Is (ints x.snd.snd.snd.snd.snd.fst) (ints x.snd.snd.snd.snd.snd.fst) ∧
 x.snd.snd.snd.snd.snd.snd.fst = x.snd.snd.snd.snd.snd.snd.fst ∧ x.snd.snd.snd.snd.snd.snd.snd = x.snd.snd.snd.snd.snd.snd.snd ∧ True) ∧
 ((Pl.ratV (Pl.plusV x_4.fst x_4.snd.fst x_4.snd.snd)).fst = x'.snd.fst ∧
 (Pl.ratV (Pl.plusV x_4.fst x_4.snd.fst x_4.snd.snd)).snd = x'.snd.snd ∧ True) ∧
 True))
 (Exists fun (x_3 : Pl.Rt × Int × Bool) =>
 ((x_2.snd.fst = x_3.fst.fst ∧ x_2.snd.snd = x_3.fst.snd ∧ True) ∧ x.snd.snd.snd.snd.snd.snd.fst = x_3.snd.fst ∧ x.snd.snd.snd.snd.snd.snd.snd = x_3.snd.snd ∧ True) ∧
 True ∧ Pl.under x_3.fst x_3.snd.fst x_3.snd.snd = (Pl.atomV x.fst x.snd).fst ∧ Bool.true = (Pl.atomV x.fst x.snd).snd ∧ True))) = Goal Tryz.prog [K_val, K_whole, K_plus, K_below] (A_atomV x.1 x.2) K_atomV.1 K_atomV.2 (x) := by kernel_rfl

theorem vc_iModelLit (x : Pl.Sig × Pl.Mdl × Pl.Ltr) : (Exists fun (x_1 : Pl.Sig × Pl.Mdl) =>
 ((Is (syms x.fst) (syms x_1.fst) ∧ True) ∧ (Is (mrows x.snd.fst) (mrows x_1.snd) ∧ True) ∧ True) ∧
 (SmG x_1.fst ∧ SmM x_1.snd) ∧
 condP (!Pl.modelOk x_1.fst x_1.snd) (Bool.false = (Pl.modelLit x.fst x.snd.fst x.snd.snd).fst ∧ Bool.false = (Pl.modelLit x.fst x.snd.fst x.snd.snd).snd ∧ True)
 (Exists fun (x_2 : Pl.Sig × Pl.Atm) =>
 ((Is (syms x.fst) (syms x_2.fst) ∧ True) ∧
 (x.snd.snd.fst.fst = x_2.snd.fst ∧
 x.snd.snd.fst.snd.fst.fst = x_2.snd.snd.fst.fst ∧
 Is (terms x.snd.snd.fst.snd.fst.snd) (terms x_2.snd.snd.fst.snd) ∧
 x.snd.snd.fst.snd.snd.fst.fst = x_2.snd.snd.snd.fst.fst ∧
 Is (terms x.snd.snd.fst.snd.snd.fst.snd) (terms x_2.snd.snd.snd.fst.snd) ∧
 Is (terms x.snd.snd.fst.snd.snd.snd.fst) (terms x_2.snd.snd.snd.snd.fst) ∧
 Is (ints x.snd.snd.fst.snd.snd.snd.snd.fst) (ints x_2.snd.snd.snd.snd.snd.fst) ∧
 x.snd.snd.fst.snd.snd.snd.snd.snd.fst = x_2.snd.snd.snd.snd.snd.snd.fst ∧ x.snd.snd.fst.snd.snd.snd.snd.snd.snd = x_2.snd.snd.snd.snd.snd.snd.snd ∧ True) ∧
 True) ∧
 (SmG x_2.fst ∧ SmA x_2.snd) ∧
 condP (!Pl.atomOk x_2.fst x_2.snd) (Bool.false = (Pl.modelLit x.fst x.snd.fst x.snd.snd).fst ∧ Bool.false = (Pl.modelLit x.fst x.snd.fst x.snd.snd).snd ∧ True)
 (Exists fun (x_3 : Pl.Mdl × Pl.Atm) =>
 ((Is (mrows x.snd.fst) (mrows x_3.fst) ∧ True) ∧
 (x.snd.snd.fst.fst = x_3.snd.fst ∧
 x.snd.snd.fst.snd.fst.fst = x_3.snd.snd.fst.fst ∧
 Is (terms x.snd.snd.fst.snd.fst.snd) (terms x_3.snd.snd.fst.snd) ∧
 x.snd.snd.fst.snd.snd.fst.fst = x_3.snd.snd.snd.fst.fst ∧
 Is (terms x.snd.snd.fst.snd.snd.fst.snd) (terms x_3.snd.snd.snd.fst.snd) ∧
 Is (terms x.snd.snd.fst.snd.snd.snd.fst) (terms x_3.snd.snd.snd.snd.fst) ∧
 Is (ints x.snd.snd.fst.snd.snd.snd.snd.fst) (ints x_3.snd.snd.snd.snd.snd.fst) ∧
 x.snd.snd.fst.snd.snd.snd.snd.snd.fst = x_3.snd.snd.snd.snd.snd.snd.fst ∧ x.snd.snd.fst.snd.snd.snd.snd.snd.snd = x_3.snd.snd.snd.snd.snd.snd.snd ∧ True) ∧
 True) ∧
 (Pl.mL Option.none x_3.fst = Bool.true ∧ SmM x_3.fst ∧ SmA x_3.snd ∧ (¬x_3.snd.fst = (1 : Int) → x_3.snd.snd.snd.snd.fst.length = x_3.snd.snd.snd.snd.snd.fst.length)) ∧
 condP (!(Pl.atomV x_3.fst x_3.snd).snd) (Bool.false = (Pl.modelLit x.fst x.snd.fst x.snd.snd).fst ∧ Bool.false = (Pl.modelLit x.fst x.snd.fst x.snd.snd).snd ∧ True)
 ((!(Pl.atomV x_3.fst x_3.snd).fst == x.snd.snd.snd) = (Pl.modelLit x.fst x.snd.fst x.snd.snd).fst ∧ Bool.true = (Pl.modelLit x.fst x.snd.fst x.snd.snd).snd ∧ True)))) = Goal Tryz.prog [K_iModelOk, K_iAtomOk, K_atomV] ([]) K_iModelLit.1 K_iModelLit.2 (x) := by kernel_rfl

end Cg

/-
  What is left to show of each function's code, printed by a program: Lit. No condition.
-/
set_option maxRecDepth 100000
set_option linter.unusedVariables false
namespace Cg
open Go Go.Proofs
end Cg

/-
  What is left to show of each function's code, printed by a program: Same. No condition.
-/
set_option maxRecDepth 100000
set_option linter.unusedVariables false
namespace Cg
open Go Go.Proofs
end Cg

/-
  The codes' contracts: atoms, formulas, explanations, cases: sizes, copies, equality. No condition.
-/
set_option linter.unusedVariables false
set_option linter.unusedSimpArgs false
set_option maxRecDepth 100000
set_option maxHeartbeats 1000000
namespace Cg
open Go Go.Proofs Pl
section
variable {α : Type} {f : α → Nat}
theorem SmTrs.mem {l : List (Tree α)} (h : SmTrs f l) {t : Tree α} (ht : t ∈ l) : SmTr f t := by
  have := costTr_mem (f := f) ht
  have h1 : l.length + costTrs f l ≤ 1048576 := h
  show costTr f t ≤ 1048576
  omega
theorem SmTrs.len {l : List (Tree α)} (h : SmTrs f l) : l.length ≤ 1048576 := by
  have h1 : l.length + costTrs f l ≤ 1048576 := h
  omega
theorem SmTr.kids {v : α} {ks : List (Tree α)} (h : SmTr f (.mk v ks)) : SmTrs f ks := by
  have h1 : costTr f (.mk v ks) ≤ 1048576 := h
  rw [costTr_eq] at h1
  simp only [Tree.val, Tree.kids] at h1
  show ks.length + costTrs f ks ≤ 1048576
  omega
theorem SmTr.here {v : α} {ks : List (Tree α)} (h : SmTr f (.mk v ks)) : f v ≤ 1048576 := by
  have h1 : costTr f (.mk v ks) ≤ 1048576 := h
  rw [costTr_eq] at h1
  simp only [Tree.val, Tree.kids] at h1
  omega
end
theorem SmA.parts {x : Atm} (h : SmA x) : SmT (.mk x.2.1.1 x.2.1.2) ∧ SmT (.mk x.2.2.1.1 x.2.2.1.2) ∧ SmTs x.2.2.2.1 ∧ x.2.2.2.2.1.length ≤ 1048576 := by
  have h1 : costA x ≤ 1048576 := h
  unfold costA at h1
  refine ⟨?_, ?_, ?_, by omega⟩
  · show costT _ ≤ _; omega
  · show costT _ ≤ _; omega
  · show _ + _ ≤ _; omega

end Cg

/-
  The codes' contracts: lists of literals: sizes, copies, equality. No condition.
-/
set_option linter.unusedVariables false
set_option linter.unusedSimpArgs false
set_option maxRecDepth 100000
set_option maxHeartbeats 1000000
namespace Cg
open Go Go.Proofs Pl
theorem SmLs.mem {l : List Ltr} (h : SmLs l) {x : Ltr} (hx : x ∈ l) : SmA x.1 := by
  have h1 : l.length + sumN costL l ≤ 1048576 := h
  have h2 := sumN_mem costL hx
  have h3 : costL x = costA x.1 := rfl
  show costA x.1 ≤ 1048576
  omega
theorem SmLs.len {l : List Ltr} (h : SmLs l) : l.length ≤ 1048576 := by
  have h1 : l.length + sumN costL l ≤ 1048576 := h
  omega
end Cg

/-
  What is left to show of each function's code, printed by a program: Atm. No condition.
-/
set_option maxRecDepth 100000
set_option linter.unusedVariables false
namespace Cg
open Go Go.Proofs
theorem vc_termText (n : Nat) (x : Pl.TP) : (condP ((↑x.snd.length : Int) == (0 : Int)) (x.fst = Pl.textT (Pl.Tree.mk x.fst x.snd))
 ((Exists fun (x_1 : Nat) =>
 (x_1 ≤ x.snd.length ∧ x.snd ≠ []) ∧
 ((0 : Nat) = (0 : Nat) ∧
 ((0 : Nat) = (0 : Nat) ∧ (0 : Nat) = (0 : Nat) ∧ (Pl.textL (List.take x_1 x.snd)).length = (0 : Nat)) ∧
 Is (terms x.snd) (terms x.snd) ∧ (↑x.snd.length : Int) = (↑x.snd.length : Int) ∧ (0 : Int) = (↑x_1 : Int) ∧ True) ∧
 (x.fst = x.fst ∧ Is (terms x.snd) (terms x.snd) ∧ True) ∧ (Pl.textL (List.take x_1 x.snd)).length = (0 : Nat) ∧ True) ∧
 ∀ (x_1 : Nat),
 x_1 ≤ x.snd.length ∧ x.snd ≠ [] →
 condP (Decidable.decide ((↑x_1 : Int) < (↑x.snd.length : Int)))
 (((0 : Int) ≤ (↑x_1 : Int) ∧ (↑x_1 : Int) < (↑x.snd.length : Int)) ∧
 x_1 < x.snd.length ∧
 Exists fun (x_2 : Pl.TP) =>
 ((Pl.Tree.val (x.snd.getD x_1 Pl.dT) = x_2.fst ∧ Is (kidsT (x.snd.getD x_1 Pl.dT)) (terms x_2.snd) ∧ True) ∧ True) ∧
 (SmT (Pl.Tree.mk x_2.fst x_2.snd) ∧ Pl.manyL x_2.snd < n) ∧
 (0 : Nat) + (Pl.textL (List.take x_1 x.snd)).length ≤ (Pl.textL (List.take x_1 x.snd)).length ∧
 ((Pl.textL (List.take x_1 x.snd)).length + (1 : Nat)) * (16 : Nat) ≤ (70368744177664 : Nat) ∧
 Exists fun (x' : Nat) =>
 (x' ≤ x.snd.length ∧ x.snd ≠ []) ∧
 x.snd.length - x' < x.snd.length - x_1 ∧
 ((0 : Nat) = (0 : Nat) ∧
 ((0 : Nat) = (0 : Nat) ∧ (Pl.textL (List.take x_1 x.snd)).length + (1 : Nat) = (Pl.textL (List.take x' x.snd)).length) ∧
 Is (terms x.snd) (terms x.snd) ∧ (↑x.snd.length : Int) = (↑x.snd.length : Int) ∧ IntKind.i64.wrap ((↑x_1 : Int) + (1 : Int)) = (↑x' : Int) ∧ True) ∧
 (x.fst = x.fst ∧ Is (terms x.snd) (terms x.snd) ∧ True) ∧
 IsO
 (AObj.arr ((Pl.textL (List.take x_1 x.snd)).length + (1 : Nat)) (1 : Nat)
 (joinC (Pl.textL (List.take x_1 x.snd)).length (cS (Pl.textL (List.take x_1 x.snd))) (rowsCell [[st (Pl.textT (Pl.Tree.mk x_2.fst x_2.snd))]])))
 (arS (Pl.textL (List.take x' x.snd))) ∧
 True)
 ((↑(x.fst.size + (1 : Nat)) : Int) ≤ (9223372036854775807 : Int) ∧
 (0 : Nat) + (Pl.textL (List.take x_1 x.snd)).length ≤ (Pl.textL (List.take x_1 x.snd)).length ∧
 Exists fun (x_2 : List ByteArray × ByteArray) =>
 (Is (strs (Pl.textL (List.take x_1 x.snd))) (strs x_2.fst) ∧ ByteArray.mk #[(44 : UInt8)] = x_2.snd ∧ True) ∧
 (x_2.fst.length ≤ (140737488355328 : Nat) ∧ (Pl.joinS x_2.fst x_2.snd).size ≤ (140737488355328 : Nat)) ∧
 (↑((ByteArray.mk (Array.mk (x.fst.data.toList ++ [(40 : UInt8)]))).size + (Pl.joinS x_2.fst x_2.snd).size) : Int) ≤ (9223372036854775807 : Int) ∧
 (↑((ByteArray.mk (Array.mk ((ByteArray.mk (Array.mk (x.fst.data.toList ++ [(40 : UInt8)]))).data.toList ++ (Pl.joinS x_2.fst x_2.snd).data.toList))).size + (1 : Nat)) : Int) ≤
 (9223372036854775807 : Int) ∧
 ByteArray.mk
 (Array.mk
 ((ByteArray.mk (Array.mk ((ByteArray.mk (Array.mk (x.fst.data.toList ++ [(40 : UInt8)]))).data.toList ++ (Pl.joinS x_2.fst x_2.snd).data.toList))).data.toList ++
 [(41 : UInt8)])) =
 Pl.textT (Pl.Tree.mk x.fst x.snd)))) = Goal Tryz.prog [(K_termText n), K_Join] (A_termText x.1 x.2) (K_termText (n + 1)).1 (K_termText (n + 1)).2 (x) := by kernel_rfl

theorem vc_isNone (x : Pl.TP) : (condP (x.fst.toList == (ByteArray.mk #[]).toList) (((↑x.snd.length : Int) == (0 : Int)) = Pl.noneT x) (Bool.false = Pl.noneT x)) = Goal Tryz.prog [] ([]) K_isNone.1 K_isNone.2 (x) := by kernel_rfl

theorem vc_Atomok (x : Pl.Atm) : (condP (x.fst == (1 : Int))
 (Exists fun (x_1 : Pl.TP) =>
 ((x.snd.fst.fst = x_1.fst ∧ Is (terms x.snd.fst.snd) (terms x_1.snd) ∧ True) ∧ True) ∧
 SmT (Pl.Tree.mk x_1.fst x_1.snd) ∧
 condP (Pl.right (Pl.Tree.mk x_1.fst x_1.snd))
 (Exists fun (x_2 : Pl.TP) =>
 ((x.snd.snd.fst.fst = x_2.fst ∧ Is (terms x.snd.snd.fst.snd) (terms x_2.snd) ∧ True) ∧ True) ∧
 SmT (Pl.Tree.mk x_2.fst x_2.snd) ∧
 condP (Pl.right (Pl.Tree.mk x_2.fst x_2.snd))
 (condP ((↑x.snd.snd.snd.fst.length : Int) == (0 : Int))
 (condP ((↑x.snd.snd.snd.snd.fst.length : Int) == (0 : Int))
 (condP (x.snd.snd.snd.snd.snd.fst == (0 : Int)) ((!x.snd.snd.snd.snd.snd.snd) = Pl.atomRight x) (Bool.false = Pl.atomRight x)) (Bool.false = Pl.atomRight x))
 (Bool.false = Pl.atomRight x))
 (Bool.false = Pl.atomRight x))
 (Bool.false = Pl.atomRight x))
 (condP (x.fst == (2 : Int))
 (Exists fun (x_1 : Pl.TP) =>
 ((x.snd.fst.fst = x_1.fst ∧ Is (terms x.snd.fst.snd) (terms x_1.snd) ∧ True) ∧ True) ∧
 True ∧
 condP (!Pl.noneT x_1) (Bool.false = Pl.atomRight x)
 (Exists fun (x_2 : Pl.TP) =>
 ((x.snd.snd.fst.fst = x_2.fst ∧ Is (terms x.snd.snd.fst.snd) (terms x_2.snd) ∧ True) ∧ True) ∧
 True ∧
 condP (!Pl.noneT x_2) (Bool.false = Pl.atomRight x)
 (Exists fun (x_3 : Int × Int × Int) =>
 ((↑x.snd.snd.snd.fst.length : Int) = x_3.fst ∧ (1 : Int) = x_3.snd.fst ∧ (4 : Int) = x_3.snd.snd ∧ True) ∧
 True ∧
 condP (!Pl.withinI x_3.fst x_3.snd.fst x_3.snd.snd) (Bool.false = Pl.atomRight x)
 (condP ((↑x.snd.snd.snd.snd.fst.length : Int) != (↑x.snd.snd.snd.fst.length : Int)) (Bool.false = Pl.atomRight x)
 (Exists fun (x_4 : Int × Int × Int) =>
 (x.snd.snd.snd.snd.snd.fst = x_4.fst ∧ (-1000 : Int) = x_4.snd.fst ∧ (1000 : Int) = x_4.snd.snd ∧ True) ∧
 True ∧
 condP (!Pl.withinI x_4.fst x_4.snd.fst x_4.snd.snd) (Bool.false = Pl.atomRight x)
 ((Exists fun (x_5 : Nat) =>
 (x.fst = (2 : Int) ∧
 Pl.sumHead x = Bool.true ∧
 x_5 ≤ x.snd.snd.snd.fst.length ∧
 Pl.numOk Option.none x.snd.snd.snd.fst x.snd.snd.snd.snd.fst =
 Pl.numOk (Pl.prevN x.snd.snd.snd.fst x_5) (List.drop x_5 x.snd.snd.snd.fst) (List.drop x_5 x.snd.snd.snd.snd.fst)) ∧
 ((0 : Nat) = (0 : Nat) ∧
 Is (terms x.snd.snd.snd.fst) (terms x.snd.snd.snd.fst) ∧
 (↑x.snd.snd.snd.fst.length : Int) = (↑x.snd.snd.snd.fst.length : Int) ∧ (0 : Int) = (↑x_5 : Int) ∧ True) ∧
 (x.fst = x.fst ∧
 x.snd.fst.fst = x.snd.fst.fst ∧
 Is (terms x.snd.fst.snd) (terms x.snd.fst.snd) ∧
 x.snd.snd.fst.fst = x.snd.snd.fst.fst ∧
 Is (terms x.snd.snd.fst.snd) (terms x.snd.snd.fst.snd) ∧
 Is (terms x.snd.snd.snd.fst) (terms x.snd.snd.snd.fst) ∧
 Is (ints x.snd.snd.snd.snd.fst) (ints x.snd.snd.snd.snd.fst) ∧
 x.snd.snd.snd.snd.snd.fst = x.snd.snd.snd.snd.snd.fst ∧ x.snd.snd.snd.snd.snd.snd = x.snd.snd.snd.snd.snd.snd ∧ True) ∧
 True) ∧
 ∀ (x_5 : Nat),
 x.fst = (2 : Int) ∧
 Pl.sumHead x = Bool.true ∧
 x_5 ≤ x.snd.snd.snd.fst.length ∧
 Pl.numOk Option.none x.snd.snd.snd.fst x.snd.snd.snd.snd.fst =
 Pl.numOk (Pl.prevN x.snd.snd.snd.fst x_5) (List.drop x_5 x.snd.snd.snd.fst) (List.drop x_5 x.snd.snd.snd.snd.fst) →
 condP (Decidable.decide ((↑x_5 : Int) < (↑x.snd.snd.snd.fst.length : Int)))
 (((0 : Int) ≤ (↑x_5 : Int) ∧ (↑x_5 : Int) < (↑x.snd.snd.snd.fst.length : Int)) ∧
 x_5 < x.snd.snd.snd.fst.length ∧
 Exists fun (x_6 : Pl.TP) =>
 ((Pl.Tree.val (x.snd.snd.snd.fst.getD x_5 Pl.dT) = x_6.fst ∧ Is (kidsT (x.snd.snd.snd.fst.getD x_5 Pl.dT)) (terms x_6.snd) ∧ True) ∧
 True) ∧
 SmT (Pl.Tree.mk x_6.fst x_6.snd) ∧
 condP (!Pl.right (Pl.Tree.mk x_6.fst x_6.snd)) (Bool.false = Pl.atomRight x)
 (((0 : Int) ≤ (↑x_5 : Int) ∧ (↑x_5 : Int) < (↑x.snd.snd.snd.snd.fst.length : Int)) ∧
 x_5 < x.snd.snd.snd.snd.fst.length ∧
 Exists fun (x_7 : Int × Int × Int) =>
 (x.snd.snd.snd.snd.fst.getD x_5 (0 : Int) = x_7.fst ∧ (-50 : Int) = x_7.snd.fst ∧ (50 : Int) = x_7.snd.snd ∧ True) ∧
 True ∧
 condP (!Pl.withinI x_7.fst x_7.snd.fst x_7.snd.snd) (Bool.false = Pl.atomRight x)
 (((0 : Int) ≤ (↑x_5 : Int) ∧ (↑x_5 : Int) < (↑x.snd.snd.snd.snd.fst.length : Int)) ∧
 x_5 < x.snd.snd.snd.snd.fst.length ∧
 condP (x.snd.snd.snd.snd.fst.getD x_5 (0 : Int) == (0 : Int)) (Bool.false = Pl.atomRight x)
 (condP (Decidable.decide ((↑x_5 : Int) > (0 : Int)))
 (((0 : Int) ≤ IntKind.i64.wrap ((↑x_5 : Int) - (1 : Int)) ∧
 IntKind.i64.wrap ((↑x_5 : Int) - (1 : Int)) < (↑x.snd.snd.snd.fst.length : Int)) ∧
 (IntKind.i64.wrap ((↑x_5 : Int) - (1 : Int))).toNat < x.snd.snd.snd.fst.length ∧
 Exists fun (x_8 : Pl.TP) =>
 ((Pl.Tree.val (x.snd.snd.snd.fst.getD (IntKind.i64.wrap ((↑x_5 : Int) - (1 : Int))).toNat Pl.dT) = x_8.fst ∧
 Is (kidsT (x.snd.snd.snd.fst.getD (IntKind.i64.wrap ((↑x_5 : Int) - (1 : Int))).toNat Pl.dT))
 (terms x_8.snd) ∧
 True) ∧
 True) ∧
 SmT (Pl.Tree.mk x_8.fst x_8.snd) ∧
 Exists fun (x_9 : Pl.TP) =>
 ((Pl.Tree.val (x.snd.snd.snd.fst.getD x_5 Pl.dT) = x_9.fst ∧
 Is (kidsT (x.snd.snd.snd.fst.getD x_5 Pl.dT)) (terms x_9.snd) ∧ True) ∧
 True) ∧
 SmT (Pl.Tree.mk x_9.fst x_9.snd) ∧
 condP
 (!Op.bytesLess (Pl.textT (Pl.Tree.mk x_8.fst x_8.snd)).toList
 (Pl.textT (Pl.Tree.mk x_9.fst x_9.snd)).toList)
 (Bool.false = Pl.atomRight x)
 (Exists fun (x' : Nat) =>
 (x.fst = (2 : Int) ∧
 Pl.sumHead x = Bool.true ∧
 x' ≤ x.snd.snd.snd.fst.length ∧
 Pl.numOk Option.none x.snd.snd.snd.fst x.snd.snd.snd.snd.fst =
 Pl.numOk (Pl.prevN x.snd.snd.snd.fst x') (List.drop x' x.snd.snd.snd.fst)
 (List.drop x' x.snd.snd.snd.snd.fst)) ∧
 x.snd.snd.snd.fst.length - x' < x.snd.snd.snd.fst.length - x_5 ∧
 ((0 : Nat) = (0 : Nat) ∧
 Is (terms x.snd.snd.snd.fst) (terms x.snd.snd.snd.fst) ∧
 (↑x.snd.snd.snd.fst.length : Int) = (↑x.snd.snd.snd.fst.length : Int) ∧
 IntKind.i64.wrap ((↑x_5 : Int) + (1 : Int)) = (↑x' : Int) ∧ True) ∧
 (x.fst = x.fst ∧
 x.snd.fst.fst = x.snd.fst.fst ∧
 Is (terms x.snd.fst.snd) (terms x.snd.fst.snd) ∧
 x.snd.snd.fst.fst = x.snd.snd.fst.fst ∧
 Is (terms x.snd.snd.fst.snd) (terms x.snd.snd.fst.snd) ∧
 Is (terms x.snd.snd.snd.fst) (terms x.snd.snd.snd.fst) ∧
 Is (ints x.snd.snd.snd.snd.fst) (ints x.snd.snd.snd.snd.fst) ∧
 x.snd.snd.snd.snd.snd.fst = x.snd.snd.snd.snd.snd.fst ∧
 x.snd.snd.snd.snd.snd.snd = x.snd.snd.snd.snd.snd.snd ∧ True) ∧
 True))
 (Exists fun (x' : Nat) =>
 (x.fst = (2 : Int) ∧
 Pl.sumHead x = Bool.true ∧
 x' ≤ x.snd.snd.snd.fst.length ∧
 Pl.numOk Option.none x.snd.snd.snd.fst x.snd.snd.snd.snd.fst =
 Pl.numOk (Pl.prevN x.snd.snd.snd.fst x') (List.drop x' x.snd.snd.snd.fst)
 (List.drop x' x.snd.snd.snd.snd.fst)) ∧
 x.snd.snd.snd.fst.length - x' < x.snd.snd.snd.fst.length - x_5 ∧
 ((0 : Nat) = (0 : Nat) ∧
 Is (terms x.snd.snd.snd.fst) (terms x.snd.snd.snd.fst) ∧
 (↑x.snd.snd.snd.fst.length : Int) = (↑x.snd.snd.snd.fst.length : Int) ∧
 IntKind.i64.wrap ((↑x_5 : Int) + (1 : Int)) = (↑x' : Int) ∧ True) ∧
 (x.fst = x.fst ∧
 x.snd.fst.fst = x.snd.fst.fst ∧
 Is (terms x.snd.fst.snd) (terms x.snd.fst.snd) ∧
 x.snd.snd.fst.fst = x.snd.snd.fst.fst ∧
 Is (terms x.snd.snd.fst.snd) (terms x.snd.snd.fst.snd) ∧
 Is (terms x.snd.snd.snd.fst) (terms x.snd.snd.snd.fst) ∧
 Is (ints x.snd.snd.snd.snd.fst) (ints x.snd.snd.snd.snd.fst) ∧
 x.snd.snd.snd.snd.snd.fst = x.snd.snd.snd.snd.snd.fst ∧
 x.snd.snd.snd.snd.snd.snd = x.snd.snd.snd.snd.snd.snd ∧ True) ∧
 True)))))
 (Bool.true = Pl.atomRight x)))))))
 (Bool.false = Pl.atomRight x))) = Goal Tryz.prog [K_isTerm, K_isNone, K_within, K_tText] (A_Atomok x) K_Atomok.1 K_Atomok.2 (x) := by kernel_rfl

theorem vc_isNumber (x : Pl.Sig × Pl.TP) : (Exists fun (x_1 : Pl.Sig × Pl.TP) =>
 ((Is (syms x.fst) (syms x_1.fst) ∧ True) ∧ (x.snd.fst = x_1.snd.fst ∧ Is (terms x.snd.snd) (terms x_1.snd.snd) ∧ True) ∧ True) ∧
 (SmG x_1.fst ∧ SmT (Pl.Tree.mk x_1.snd.fst x_1.snd.snd)) ∧
 condP (Pl.termSort x_1.fst (Pl.Tree.mk x_1.snd.fst x_1.snd.snd)).snd
 (((Pl.termSort x_1.fst (Pl.Tree.mk x_1.snd.fst x_1.snd.snd)).fst == (1 : Int)) = Pl.isNum x.fst (Pl.Tree.mk x.snd.fst x.snd.snd)) (Bool.false = Pl.isNum x.fst (Pl.Tree.mk x.snd.fst x.snd.snd))) = Goal Tryz.prog [K_iTermSort] ([]) K_isNumber.1 K_isNumber.2 (x) := by kernel_rfl

theorem vc_AtomOk1 (x : Pl.TP × Pl.Sig) : ((0 : Nat) < (1 : Nat) ∧
 Exists fun (x_1 : Pl.Sig × Pl.TP) =>
 ((Is (syms x.snd) (syms x_1.fst) ∧ True) ∧ (x.fst.fst = x_1.snd.fst ∧ Is (terms x.fst.snd) (terms x_1.snd.snd) ∧ True) ∧ True) ∧
 (SmG x_1.fst ∧ SmT (Pl.Tree.mk x_1.snd.fst x_1.snd.snd)) ∧ (!Pl.isNum x_1.fst (Pl.Tree.mk x_1.snd.fst x_1.snd.snd)) = !Pl.isNum x.snd (Pl.Tree.mk x.fst.fst x.fst.snd)) = Goal Tryz.prog [K_isNumber] ([]) K_AtomOk1.1 K_AtomOk1.2 (x) := by kernel_rfl

theorem vc_IndexTerm (x : List Pl.Tm × Pl.Sig) : ((Exists fun (x_1 : Nat) =>
 (x_1 ≤ x.fst.length ∧
 Pl.idx (fun (y : Pl.Tm) => !Pl.isNum x.snd y) x.fst =
 if Pl.idx (fun (y : Pl.Tm) => !Pl.isNum x.snd y) (List.drop x_1 x.fst) < (0 : Int) then (-1 : Int) else Pl.idx (fun (y : Pl.Tm) => !Pl.isNum x.snd y) (List.drop x_1 x.fst) + (↑x_1 : Int)) ∧
 (Is (terms x.fst) (terms x.fst) ∧ (Is (refs [syms x.snd]) (refs [syms x.snd]) ∧ True) ∧ (↑x.fst.length : Int) = (↑x.fst.length : Int) ∧ (0 : Int) = (↑x_1 : Int) ∧ True) ∧
 True) ∧
 ∀ (x_1 : Nat),
 (x_1 ≤ x.fst.length ∧
 Pl.idx (fun (y : Pl.Tm) => !Pl.isNum x.snd y) x.fst =
 if Pl.idx (fun (y : Pl.Tm) => !Pl.isNum x.snd y) (List.drop x_1 x.fst) < (0 : Int) then (-1 : Int) else Pl.idx (fun (y : Pl.Tm) => !Pl.isNum x.snd y) (List.drop x_1 x.fst) + (↑x_1 : Int)) →
 condP (Decidable.decide ((↑x_1 : Int) < (↑x.fst.length : Int)))
 (((0 : Int) ≤ (↑x_1 : Int) ∧ (↑x_1 : Int) < (↑x.fst.length : Int)) ∧
 x_1 < x.fst.length ∧
 Exists fun (x_2 : Pl.TP × Pl.Sig) =>
 ((Pl.Tree.val (x.fst.getD x_1 Pl.dT) = x_2.fst.fst ∧ Is (kidsT (x.fst.getD x_1 Pl.dT)) (terms x_2.fst.snd) ∧ True) ∧
 Is (refs [syms x.snd]) (refs [syms x_2.snd]) ∧ True) ∧
 (SmG x_2.snd ∧ SmT (Pl.Tree.mk x_2.fst.fst x_2.fst.snd)) ∧
 condP (!Pl.isNum x_2.snd (Pl.Tree.mk x_2.fst.fst x_2.fst.snd)) ((↑x_1 : Int) = Pl.idx (fun (y : Pl.Tm) => !Pl.isNum x.snd y) x.fst)
 (Exists fun (x' : Nat) =>
 (x' ≤ x.fst.length ∧
 Pl.idx (fun (y : Pl.Tm) => !Pl.isNum x.snd y) x.fst =
 if Pl.idx (fun (y : Pl.Tm) => !Pl.isNum x.snd y) (List.drop x' x.fst) < (0 : Int) then (-1 : Int)
 else Pl.idx (fun (y : Pl.Tm) => !Pl.isNum x.snd y) (List.drop x' x.fst) + (↑x' : Int)) ∧
 x.fst.length - x' < x.fst.length - x_1 ∧
 (Is (terms x.fst) (terms x.fst) ∧
 (Is (refs [syms x.snd]) (refs [syms x.snd]) ∧ True) ∧
 (↑x.fst.length : Int) = (↑x.fst.length : Int) ∧ IntKind.i64.wrap ((↑x_1 : Int) + (1 : Int)) = (↑x' : Int) ∧ True) ∧
 True))
 ((-1 : Int) = Pl.idx (fun (y : Pl.Tm) => !Pl.isNum x.snd y) x.fst)) = Goal Tryz.prog [K_AtomOk1] (A_IndexTerm x.1 x.2) K_IndexTerm.1 K_IndexTerm.2 (x) := by kernel_rfl

theorem vc_ContainsTerm (x : List Pl.Tm × Pl.Sig) : (Exists fun (x_1 : List Pl.Tm × Pl.Sig) =>
 (Is (terms x.fst) (terms x_1.fst) ∧ (Is (refs [syms x.snd]) (refs [syms x_1.snd]) ∧ True) ∧ True) ∧
 (SmTs x_1.fst ∧ SmG x_1.snd) ∧ Decidable.decide (Pl.idx (fun (y : Pl.Tm) => !Pl.isNum x_1.snd y) x_1.fst ≥ (0 : Int)) = x.fst.any fun (y : Pl.Tm) => !Pl.isNum x.snd y) = Goal Tryz.prog [K_IndexTerm] ([]) K_ContainsTerm.1 K_ContainsTerm.2 (x) := by kernel_rfl

theorem vc_Eqsorted (x : Pl.TP × Pl.TP × Pl.Sig) : (Exists fun (x_1 : Pl.Sig × Pl.TP) =>
 ((Is (syms x.snd.snd) (syms x_1.fst) ∧ True) ∧ (x.fst.fst = x_1.snd.fst ∧ Is (terms x.fst.snd) (terms x_1.snd.snd) ∧ True) ∧ True) ∧
 (SmG x_1.fst ∧ SmT (Pl.Tree.mk x_1.snd.fst x_1.snd.snd)) ∧
 Exists fun (x_2 : Pl.Sig × Pl.TP) =>
 ((Is (syms x.snd.snd) (syms x_2.fst) ∧ True) ∧ (x.snd.fst.fst = x_2.snd.fst ∧ Is (terms x.snd.fst.snd) (terms x_2.snd.snd) ∧ True) ∧ True) ∧
 (SmG x_2.fst ∧ SmT (Pl.Tree.mk x_2.snd.fst x_2.snd.snd)) ∧
 condP (Pl.termSort x_1.fst (Pl.Tree.mk x_1.snd.fst x_1.snd.snd)).snd
 (condP (Pl.termSort x_2.fst (Pl.Tree.mk x_2.snd.fst x_2.snd.snd)).snd
 (((Pl.termSort x_1.fst (Pl.Tree.mk x_1.snd.fst x_1.snd.snd)).fst == (Pl.termSort x_2.fst (Pl.Tree.mk x_2.snd.fst x_2.snd.snd)).fst) =
 Pl.eqSorted x.snd.snd (Pl.Tree.mk x.fst.fst x.fst.snd) (Pl.Tree.mk x.snd.fst.fst x.snd.fst.snd))
 (Bool.false = Pl.eqSorted x.snd.snd (Pl.Tree.mk x.fst.fst x.fst.snd) (Pl.Tree.mk x.snd.fst.fst x.snd.fst.snd)))
 (Bool.false = Pl.eqSorted x.snd.snd (Pl.Tree.mk x.fst.fst x.fst.snd) (Pl.Tree.mk x.snd.fst.fst x.snd.fst.snd))) = Goal Tryz.prog [K_iTermSort] ([]) K_Eqsorted.1 K_Eqsorted.2 (x) := by kernel_rfl

theorem vc_iAtomOk (x : Pl.Sig × Pl.Atm) : (Exists fun (x_1 : Pl.Sig) =>
 ((Is (syms x.fst) (syms x_1) ∧ True) ∧ True) ∧
 SmG x_1 ∧
 condP (!Pl.sigOk x_1) (Bool.false = Pl.atomOk x.fst x.snd)
 (Exists fun (x_2 : Pl.Atm) =>
 ((x.snd.fst = x_2.fst ∧
 x.snd.snd.fst.fst = x_2.snd.fst.fst ∧
 Is (terms x.snd.snd.fst.snd) (terms x_2.snd.fst.snd) ∧
 x.snd.snd.snd.fst.fst = x_2.snd.snd.fst.fst ∧
 Is (terms x.snd.snd.snd.fst.snd) (terms x_2.snd.snd.fst.snd) ∧
 Is (terms x.snd.snd.snd.snd.fst) (terms x_2.snd.snd.snd.fst) ∧
 Is (ints x.snd.snd.snd.snd.snd.fst) (ints x_2.snd.snd.snd.snd.fst) ∧
 x.snd.snd.snd.snd.snd.snd.fst = x_2.snd.snd.snd.snd.snd.fst ∧ x.snd.snd.snd.snd.snd.snd.snd = x_2.snd.snd.snd.snd.snd.snd ∧ True) ∧
 True) ∧
 SmA x_2 ∧
 condP (!Pl.atomRight x_2) (Bool.false = Pl.atomOk x.fst x.snd)
 (condP (x.snd.fst == (1 : Int))
 (Exists fun (x_3 : Pl.TP × Pl.TP × Pl.Sig) =>
 ((x.snd.snd.fst.fst = x_3.fst.fst ∧
 Is (terms x.snd.snd.fst.snd) (terms x_3.fst.snd) ∧
 x.snd.snd.snd.fst.fst = x_3.snd.fst.fst ∧ Is (terms x.snd.snd.snd.fst.snd) (terms x_3.snd.fst.snd) ∧ True) ∧
 (Is (syms x.fst) (syms x_3.snd.snd) ∧ True) ∧ True) ∧
 (SmT (Pl.Tree.mk x_3.fst.fst x_3.fst.snd) ∧ SmT (Pl.Tree.mk x_3.snd.fst.fst x_3.snd.fst.snd) ∧ SmG x_3.snd.snd) ∧
 Pl.eqSorted x_3.snd.snd (Pl.Tree.mk x_3.fst.fst x_3.fst.snd) (Pl.Tree.mk x_3.snd.fst.fst x_3.snd.fst.snd) = Pl.atomOk x.fst x.snd)
 (Exists fun (x_3 : List Pl.Tm × Pl.Sig) =>
 (Is (terms x.snd.snd.snd.snd.fst) (terms x_3.fst) ∧ (Is (refs [syms x.fst]) (refs [syms x_3.snd]) ∧ True) ∧ True) ∧
 (SmTs x_3.fst ∧ SmG x_3.snd) ∧ (!x_3.fst.any fun (y : Pl.Tm) => !Pl.isNum x_3.snd y) = Pl.atomOk x.fst x.snd)))) = Goal Tryz.prog [K_iSigOk, K_Atomok, K_Eqsorted, K_ContainsTerm] ([]) K_iAtomOk.1 K_iAtomOk.2 (x) := by kernel_rfl

end Cg
