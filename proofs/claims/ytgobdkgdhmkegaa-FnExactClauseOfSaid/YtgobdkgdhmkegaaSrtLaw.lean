/-
  Sorted lists of marks: plain laws. No condition.
-/
import Derived.Test.YtgobdkgdhmkegaaSrtDefs
import Derived.Test.YtgobdkgdhmkegaaDrawThr
set_option linter.unusedVariables false
set_option linter.unusedSimpArgs false
namespace Pl
open Go Cg
/-- A mark. -/
abbrev Mrk (x : Int) : Prop := x ≠ 0 ∧ -60 ≤ x ∧ x ≤ 60
theorem wneg_mrk {x : Int} (h : Mrk x) : wneg x = -x := by
  unfold wneg; rw [Cg.wrap_small (by omega) (by omega)]; omega
theorem absW_mrk {x : Int} (h : Mrk x) : absW x = x.natAbs := by
  unfold absW
  rw [if_neg (by omega), if_neg (by omega)]
  split
  · rw [wneg_mrk h]; omega
  · omega
theorem varI_mrk {x : Int} (h : Mrk x) : varI x = x.natAbs := by
  unfold varI
  rw [wneg_mrk h]
  split <;> omega
theorem isMark60 (x : Int) : isMark x 60 = true ↔ Mrk x := by
  have e : wneg 60 = -60 := by decide
  unfold isMark withinI
  rw [e]
  simp only [Bool.and_eq_true, decide_eq_true_eq]
theorem badMark_iff (x : Int) : badMark x = false ↔ Mrk x := by
  unfold badMark absW
  simp only [Bool.or_eq_false_iff, decide_eq_false_iff_not]
  constructor
  · intro ⟨h1, h2⟩
    split at h2
    · omega
    · split at h2
      · omega
      · exact ⟨h1, by omega, by omega⟩
  · intro h
    refine ⟨h.1, ?_⟩
    rw [if_neg (by omega), if_neg (by omega)]
    split
    · rw [wneg_mrk h]; omega
    · omega
theorem fine_iff (l : List Int) (x : Int) : fineMark l x = true ↔ Mrk x ∧ -x ∉ l := by
  unfold fineMark
  rw [Bool.and_eq_true, isMark60]
  constructor
  · intro ⟨h1, h2⟩
    rw [wneg_mrk h1] at h2
    exact ⟨h1, by simpa using h2⟩
  · intro ⟨h1, h2⟩
    rw [wneg_mrk h1]
    exact ⟨h1, by simpa using h2⟩
abbrev Asc (l : List Int) : Prop := l.Pairwise fun x y => x.natAbs < y.natAbs
theorem putS_spec : ∀ {out : List Int} {x : Int}, Mrk x → (∀ y ∈ out, Mrk y) → Asc out →
    ((-x ∈ out → (putS out x).2 = false) ∧ (-x ∉ out → (putS out x).2 = true ∧ Asc (putS out x).1 ∧ ∀ z, z ∈ (putS out x).1 ↔ z = x ∨ z ∈ out))
  | [], x, hx, _, _ => ⟨fun h => (by cases h), fun _ => ⟨rfl, List.pairwise_singleton _ _, fun z => by simp [putS]⟩⟩
  | y :: out, x, hx, hm, ha => by
    have hy := hm y (List.mem_cons_self ..)
    have hm' : ∀ z ∈ out, Mrk z := fun z hz => hm z (List.mem_cons_of_mem _ hz)
    obtain ⟨ha1, ha2⟩ := List.pairwise_cons.1 ha
    have ih := putS_spec hx hm' ha2
    unfold putS
    rw [absW_mrk hx, absW_mrk hy]
    by_cases h1 : y.natAbs < x.natAbs
    · rw [if_pos (by omega)]
      simp only
      refine ⟨fun h => ih.1 ?_, fun h => ?_⟩
      · rcases List.mem_cons.1 h with e | e
        · omega
        · exact e
      · obtain ⟨i1, i2, i3⟩ := ih.2 (fun e => h (List.mem_cons_of_mem _ e))
        refine ⟨i1, List.pairwise_cons.2 ⟨fun z hz => ?_, i2⟩, fun z => ?_⟩
        · rcases (i3 z).1 hz with e | e
          · subst e; exact h1
          · exact ha1 z e
        · rw [List.mem_cons, i3, List.mem_cons]
          exact ⟨fun h => by rcases h with h | h | h <;> simp [h], fun h => by rcases h with h | h | h <;> simp [h]⟩
    · rw [if_neg (by omega)]
      by_cases h2 : y.natAbs = x.natAbs
      · rw [if_pos (by omega)]
        simp only
        refine ⟨fun h => decide_eq_false ?_, fun h => ?_⟩
        · intro e
          subst e
          rcases List.mem_cons.1 h with e | e
          · omega
          · have := ha1 _ e; omega
        · have e : y = x := by
            rcases Int.natAbs_eq_natAbs_iff.1 h2 with e | e
            · exact e
            · exact absurd (by rw [e]; exact List.mem_cons_self ..) h
          subst e
          exact ⟨decide_eq_true rfl, ha, fun z => by simp⟩
      · rw [if_neg (by omega)]
        simp only
        refine ⟨fun h => ?_, fun h => ⟨trivial, List.pairwise_cons.2 ⟨fun z hz => ?_, ha⟩, fun z => by simp⟩⟩
        · exfalso
          rcases List.mem_cons.1 h with e | e
          · omega
          · have := ha1 _ e; omega
        · rcases List.mem_cons.1 hz with e | e
          · subst e; omega
          · have := ha1 _ e; omega
theorem clauseL_spec : ∀ {l out : List Int}, (∀ x ∈ l, Mrk x) → (∀ y ∈ out, Mrk y) → Asc out → (∀ y ∈ out, -y ∉ out) →
    (((∃ x ∈ l, -x ∈ l ∨ -x ∈ out) → clauseL l out = ([], false)) ∧ ((∀ x ∈ l, -x ∉ l ∧ -x ∉ out) → (clauseL l out).2 = true ∧ Asc (clauseL l out).1 ∧ ∀ z, z ∈ (clauseL l out).1 ↔ z ∈ l ∨ z ∈ out))
  | [], out, _, _, ha, _ => ⟨fun ⟨x, hx, _⟩ => (by cases hx), fun _ => ⟨rfl, ha, fun z => by simp [clauseL]⟩⟩
  | x :: l, out, hl, ho, ha, hn => by
    have hx := hl x (List.mem_cons_self ..)
    have hl' : ∀ y ∈ l, Mrk y := fun y hy => hl y (List.mem_cons_of_mem _ hy)
    obtain ⟨p1, p2⟩ := putS_spec hx ho ha
    unfold clauseL
    by_cases hneg : -x ∈ out
    · rw [p1 hneg]
      exact ⟨fun _ => rfl, fun h => absurd hneg (h x (List.mem_cons_self ..)).2⟩
    · obtain ⟨q1, q2, q3⟩ := p2 hneg
      rw [q1, if_pos rfl]
      have hm : ∀ y ∈ (putS out x).1, Mrk y := fun y hy => by
        rcases (q3 y).1 hy with e | e
        · subst e; exact hx
        · exact ho y e
      have hn2 : ∀ y ∈ (putS out x).1, -y ∉ (putS out x).1 := fun y hy hy2 => by
        rcases (q3 y).1 hy with e | e
        · subst e
          rcases (q3 _).1 hy2 with e | e
          · have := hx.1; omega
          · exact hneg e
        · rcases (q3 _).1 hy2 with e2 | e2
          · exact hneg (by rw [← e2]; simpa using e)
          · exact hn y e e2
      obtain ⟨c1, c2⟩ := clauseL_spec hl' hm q2 hn2
      refine ⟨fun ⟨z, hz, hb⟩ => c1 ?_, fun h => ?_⟩
      · rcases List.mem_cons.1 hz with e | e
        · subst e
          rcases hb with hb | hb
          · rcases List.mem_cons.1 hb with e | e
            · have := hx.1; omega
            · exact ⟨-z, e, .inr ((q3 _).2 (.inl (by omega)))⟩
          · exact absurd hb hneg
        · rcases hb with hb | hb
          · rcases List.mem_cons.1 hb with e2 | e2
            · exact ⟨z, e, .inr ((q3 _).2 (.inl e2))⟩
            · exact ⟨z, e, .inl e2⟩
          · exact ⟨z, e, .inr ((q3 _).2 (.inr hb))⟩
      · obtain ⟨d1, d2, d3⟩ := c2 fun z hz => by
          have h1 := h z (List.mem_cons_of_mem _ hz)
          refine ⟨fun e => h1.1 (List.mem_cons_of_mem _ e), fun e => ?_⟩
          rcases (q3 _).1 e with e2 | e2
          · exact h1.1 (by rw [e2]; exact List.mem_cons_self ..)
          · exact h1.2 e2
        refine ⟨d1, d2, fun z => ?_⟩
        rw [d3, q3, List.mem_cons]
        exact ⟨fun h => by rcases h with h | h | h <;> simp [h], fun h => by rcases h with (h | h) | h <;> simp [h]⟩
theorem clauseOf_no {l : List Int} (h : l.all (fineMark l) = false) : clauseOf l = ([], false) := by
  unfold clauseOf
  split
  · rfl
  · rename_i hb
    have hm : ∀ x ∈ l, Mrk x := fun x hx => (badMark_iff x).1 (by
      have := List.any_eq_false.1 (by simpa using hb) x hx
      simpa using this)
    obtain ⟨x, hx, hf⟩ := List.all_eq_false.1 h
    refine (clauseL_spec hm (fun y hy => by cases hy) List.Pairwise.nil (fun y hy => by cases hy)).1 ⟨x, hx, .inl ?_⟩
    cases hc : decide (-x ∈ l) with
    | true => exact of_decide_eq_true hc
    | false => exact absurd ((fine_iff l x).2 ⟨hm x hx, of_decide_eq_false hc⟩) hf
theorem clauseOf_yes {l : List Int} (h : l.all (fineMark l) = true) : (clauseOf l).2 = true ∧ Asc (clauseOf l).1 ∧ ∀ z, z ∈ (clauseOf l).1 ↔ z ∈ l := by
  have hf : ∀ x ∈ l, Mrk x ∧ -x ∉ l := fun x hx => (fine_iff l x).1 (List.all_eq_true.1 h x hx)
  have hb : l.any badMark = false := List.any_eq_false.2 fun x hx => by rw [(badMark_iff x).2 (hf x hx).1]; simp
  have e : clauseOf l = clauseL l [] := by unfold clauseOf; rw [hb]; rfl
  rw [e]
  obtain ⟨d1, d2, d3⟩ := (clauseL_spec (fun x hx => (hf x hx).1) (fun y hy => by cases hy) List.Pairwise.nil (fun y hy => by cases hy) (l := l) (out := [])).2 fun x hx => ⟨(hf x hx).2, by simp⟩
  exact ⟨d1, d2, fun z => by rw [d3]; simp⟩
theorem asc_eq : ∀ {a b : List Int}, Asc a → Asc b → (∀ z, z ∈ a ↔ z ∈ b) → a = b
  | [], [], _, _, _ => rfl
  | [], y :: b, _, _, h => by have := (h y).2 (List.mem_cons_self ..); cases this
  | x :: a, [], _, _, h => by have := (h x).1 (List.mem_cons_self ..); cases this
  | x :: a, y :: b, ha, hb, h => by
    obtain ⟨a1, a2⟩ := List.pairwise_cons.1 ha
    obtain ⟨b1, b2⟩ := List.pairwise_cons.1 hb
    have e : x = y := by
      rcases List.mem_cons.1 ((h x).1 (List.mem_cons_self ..)) with e | e
      · exact e
      · rcases List.mem_cons.1 ((h y).2 (List.mem_cons_self ..)) with e2 | e2
        · exact e2.symm
        · have := a1 _ e2; have := b1 _ e; omega
    subst e
    congr 1
    refine asc_eq a2 b2 fun z => ⟨fun hz => ?_, fun hz => ?_⟩
    · rcases List.mem_cons.1 ((h z).1 (List.mem_cons_of_mem _ hz)) with e | e
      · subst e; have := a1 _ hz; omega
      · exact e
    · rcases List.mem_cons.1 ((h z).2 (List.mem_cons_of_mem _ hz)) with e | e
      · subst e; have := b1 _ hz; omega
      · exact e
theorem compactN_succ (l : List Int) (m : Nat) : compactN l (m + 1) = compactN l m ++ (if keepsL l m = true then [l.getD m 0] else []) := by
  unfold compactN
  rw [List.range_succ, List.filter_append, List.map_append]
  congr 1
  cases h : keepsL l m <;> simp [h]
theorem compactN_spec {l : List Int} (hs : ∀ i j, i < j → j < l.length → (l.getD i 0).natAbs ≤ (l.getD j 0).natAbs) (hn : ∀ x ∈ l, ∀ y ∈ l, x.natAbs = y.natAbs → x = y) : ∀ m, m ≤ l.length → Asc (compactN l m) ∧ (∀ z, z ∈ compactN l m ↔ ∃ j, j < m ∧ l.getD j 0 = z)
  | 0, _ => ⟨List.Pairwise.nil, fun z => ⟨fun h => (by cases h), fun ⟨j, hj, _⟩ => by omega⟩⟩
  | m + 1, hm => by
    obtain ⟨i1, i2⟩ := compactN_spec hs hn m (by omega)
    rw [compactN_succ]
    by_cases hk : keepsL l m = true
    · rw [if_pos hk]
      refine ⟨List.pairwise_append.2 ⟨i1, List.pairwise_singleton _ _, fun x hx y hy => ?_⟩, fun z => ?_⟩
      · simp only [List.mem_singleton] at hy
        subst hy
        obtain ⟨j, hj, e⟩ := (i2 x).1 hx
        subst e
        unfold keepsL at hk
        have hk := of_decide_eq_true hk
        have h0 : m ≠ 0 := by omega
        have h1 : l.getD m 0 ≠ l.getD (m - 1) 0 := hk.resolve_left h0
        have h2 := hs (m - 1) m (by omega) (by omega)
        have h3 : (l.getD j 0).natAbs ≤ (l.getD (m - 1) 0).natAbs := by
          by_cases e : j = m - 1
          · rw [e]; exact Nat.le_refl _
          · exact hs j (m - 1) (by omega) (by omega)
        have h4 : (l.getD (m - 1) 0).natAbs ≠ (l.getD m 0).natAbs := fun e => h1 (hn _ (getD_mem 0 (by omega)) _ (getD_mem 0 (by omega)) e).symm
        omega
      · rw [List.mem_append, i2, List.mem_singleton]
        constructor
        · rintro (⟨j, hj, e⟩ | e)
          · exact ⟨j, by omega, e⟩
          · exact ⟨m, by omega, e.symm⟩
        · rintro ⟨j, hj, e⟩
          by_cases hjm : j = m
          · exact .inr (by rw [← e, hjm])
          · exact .inl ⟨j, by omega, e⟩
    · rw [if_neg hk, List.append_nil]
      refine ⟨i1, fun z => ?_⟩
      rw [i2]
      have hk := Bool.eq_false_iff.2 hk
      unfold keepsL at hk
      have hk := of_decide_eq_false hk
      have h0 : m ≠ 0 := fun e => hk (.inl e)
      have h1 : l.getD m 0 = l.getD (m - 1) 0 := Classical.byContradiction fun e => hk (.inr e)
      constructor
      · rintro ⟨j, hj, e⟩; exact ⟨j, by omega, e⟩
      · rintro ⟨j, hj, e⟩
        by_cases hjm : j = m
        · exact ⟨m - 1, by omega, by rw [← h1, ← hjm]; exact e⟩
        · exact ⟨j, by omega, e⟩
theorem sort_clause {l m : List Int} (h : l.all (fineMark l) = true) (hp : l.Perm m) (hs : SortedV m) : compactL m = (clauseOf l).1 := by
  obtain ⟨_, c2, c3⟩ := clauseOf_yes h
  have hf : ∀ x ∈ l, Mrk x ∧ -x ∉ l := fun x hx => (fine_iff l x).1 (List.all_eq_true.1 h x hx)
  have hm : ∀ x, x ∈ m ↔ x ∈ l := fun x => hp.mem_iff.symm
  have mk : ∀ i, i < m.length → Mrk (m.getD i 0) := fun i hi => (hf _ ((hm _).1 (getD_mem 0 hi))).1
  obtain ⟨d1, d2⟩ := compactN_spec (l := m) (fun i j hij hj => by
    have h1 := hs i j hij hj
    rw [varI_mrk (mk i (by omega)), varI_mrk (mk j hj)] at h1
    omega) (fun x hx y hy e => by
      rcases Int.natAbs_eq_natAbs_iff.1 e with e | e
      · exact e
      · exact absurd ((hm y).1 hy) (by have := (hf x ((hm x).1 hx)).2; rw [e] at this; simpa using this)) m.length (Nat.le_refl _)
  refine asc_eq d1 c2 fun z => ?_
  show z ∈ compactN m m.length ↔ _
  rw [d2, c3, ← hm]
  constructor
  · rintro ⟨j, hj, e⟩; rw [← e]; exact getD_mem 0 hj
  · intro hz
    obtain ⟨j, hj, e⟩ := List.getElem_of_mem hz
    exact ⟨j, hj, by simp [hj, e]⟩
end Pl
