/-
  Searches: plain laws. No condition.
-/
import Derived.Test.YtgobdkgdhmkegaaHuntDefs
import Derived.Test.YtgobdkgdhmkegaaSrtLaw
set_option linter.unusedVariables false
set_option linter.unusedSimpArgs false
namespace Pl
open Go Cg
/-! ### What is chosen -/

theorem rgt_nil (c : Cnf) : Rgt c [] := rfl
theorem rgt_init {many : Int} {l : List Int} {x : Int} (h : rightS many [] (l ++ [x]) = true) : rightS many [] l = true ∧ x ≠ 0 ∧ absW x ≤ many ∧ at_ x l = 0 := by
  rw [rightS_snoc] at h
  simp only [List.nil_append, Bool.and_eq_true, Bool.not_eq_true', Bool.or_eq_false_iff, decide_eq_false_iff_not] at h
  exact ⟨h.1, h.2.1.1, by omega, by have := h.2.2; omega⟩
theorem rgt_snoc {many : Int} {l : List Int} {x : Int} (h : rightS many [] l = true) (h0 : x ≠ 0) (h1 : absW x ≤ many) (h2 : at_ x l = 0) : rightS many [] (l ++ [x]) = true := by
  rw [rightS_snoc, h]
  simp only [List.nil_append, Bool.true_and, Bool.not_eq_true', Bool.or_eq_false_iff, decide_eq_false_iff_not]
  exact ⟨⟨h0, by omega⟩, by omega⟩
theorem absW_pos {x : Int} (h : x ≠ 0) (hm : absW x ≤ 60) : Mk x := by
  refine absW_mk ?_ hm
  unfold absW at hm ⊢
  by_cases h1 : x < -60
  · rw [if_pos h1] at hm; omega
  · rw [if_neg h1] at hm ⊢
    by_cases h2 : x > 60
    · rw [if_pos h2] at hm; omega
    · rw [if_neg h2] at hm ⊢
      by_cases h3 : x < 0
      · rw [if_pos h3]
        unfold wneg
        rw [Cg.wrap_small (by omega) (by omega)]; omega
      · rw [if_neg h3]; omega
theorem rgt_mk {many : Int} (hm : many ≤ 60) : ∀ {l done : List Int}, rightS many done l = true → ∀ x ∈ l, Mk x ∧ absW x ≤ many
  | [], _, _, x, hx => by cases hx
  | y :: l, done, h, x, hx => by
    simp only [rightS, Bool.and_eq_true, Bool.not_eq_true', Bool.or_eq_false_iff, decide_eq_false_iff_not] at h
    cases List.mem_cons.1 hx with
    | inl e => subst e; exact ⟨absW_pos h.1.1.1 (by omega), by omega⟩
    | inr e => exact rgt_mk hm h.2 x e
theorem rgt_cons {c : Cnf} {ds : List Int} (hc : cnfOk c = true) (h : Rgt c ds) : Cons ds := by
  have := rightS_cons (cnfOk_many hc) cons_nil h
  simpa using this
theorem uncov_right {many : Int} (hm : 0 ≤ many ∧ many ≤ 60) : ∀ (n : Nat) (l : List Int), l.length = n → rightS many [] l = true → uncov l + l.length ≤ 60
  | 0, l, hl, _ => by have := uncov_le l; omega
  | n + 1, l, hl, h => by
    obtain ⟨l', x, rfl⟩ : ∃ l' x, l = l' ++ [x] := by
      rcases List.eq_nil_or_concat l with rfl | ⟨l', x, e⟩
      · simp at hl
      · exact ⟨l', x, by rw [e]; simp⟩
    obtain ⟨h1, h2, h3, h4⟩ := rgt_init h
    have ih := uncov_right hm n l' (by simpa using hl) h1
    obtain ⟨h5, h6⟩ := at_ne h4
    have := cov_snoc (absW_pos h2 (by omega)) h5 h6
    simp only [List.length_append, List.length_singleton]
    omega
theorem rgt_len {c : Cnf} {ds : List Int} (hc : cnfOk c = true) (h : Rgt c ds) : ds.length ≤ 60 := by
  have := uncov_right (cnfOk_many hc) _ ds rfl h; omega

theorem mem_marks {many m : Int} (h : m ∈ marks many) : 1 ≤ m ∧ m ≤ many := by
  obtain ⟨i, hi, rfl⟩ := List.mem_map.1 h
  have := List.mem_range.1 hi
  omega
theorem marks_mem {many m : Int} (h1 : 1 ≤ m) (h2 : m ≤ many) : m ∈ marks many := List.mem_map.2 ⟨(m - 1).toNat, List.mem_range.2 (by omega), by omega⟩
theorem freeL_some {put : List Int} : ∀ {l : List Int}, freeL put l ≠ 0 → freeL put l ∈ l ∧ at_ (freeL put l) put = 0
  | [], h => absurd rfl h
  | m :: r, h => by
    unfold freeL at h ⊢
    by_cases h1 : at_ m put = 0
    · rw [if_pos h1]; exact ⟨List.mem_cons_self, h1⟩
    · rw [if_neg h1] at h ⊢
      obtain ⟨h2, h3⟩ := freeL_some h
      exact ⟨List.mem_cons_of_mem _ h2, h3⟩
theorem freeL_none {put : List Int} : ∀ {l : List Int}, (∀ m ∈ l, m ≠ 0) → freeL put l = 0 → ∀ m ∈ l, at_ m put ≠ 0
  | [], _, _, m, hm => by cases hm
  | x :: r, h0, h, m, hm => by
    unfold freeL at h
    by_cases h1 : at_ x put = 0
    · rw [if_pos h1] at h; exact absurd h (h0 x List.mem_cons_self)
    · rw [if_neg h1] at h
      cases List.mem_cons.1 hm with
      | inl e => subst e; exact h1
      | inr e => exact freeL_none (fun y hy => h0 y (List.mem_cons_of_mem _ hy)) h m e
theorem unitsF_pre (scan : List Int → List (List Int) → Option (Option Int)) (list : List (List Int)) : ∀ (k : Nat) (put : List Int), ∃ r, (unitsF scan list k put).1 = put ++ r
  | 0, put => ⟨[], by simp [unitsF]⟩
  | k + 1, put => by
    unfold unitsF
    split
    · exact ⟨[], by simp⟩
    · exact ⟨[], by simp⟩
    · rename_i l _
      obtain ⟨r, h⟩ := unitsF_pre scan list k (put ++ [l])
      exact ⟨l :: r, by rw [h]; simp⟩
theorem units_pre (list : List (List Int)) (put : List Int) : ∀ x ∈ put, x ∈ (unitsS list put).1 := fun x hx => by
  obtain ⟨r, h⟩ := unitsF_pre scanS list 61 put
  unfold unitsS
  rw [h]
  exact List.mem_append_left _ hx
theorem Mk.neg {x : Int} (h : Mk x) : Mk (-x) := ⟨by have := h.1; omega, by have := h.2.2; omega, by have := h.2.1; omega⟩
theorem absW_neg {x : Int} (h : Mk x) : absW (-x) = absW x := by
  rw [absW_of h.neg, absW_of h]
  have := h.1
  split <;> split <;> omega
/-- What may be chosen next. -/
theorem next_right {c : Cnf} {ds : List Int} (hc : cnfOk c = true) (h : Rgt c ds) (hn : next c ds ≠ 0) : 1 ≤ next c ds ∧ next c ds ≤ c.1 ∧ Rgt c (ds ++ [-next c ds]) ∧ Rgt c (ds ++ [next c ds]) := by
  obtain ⟨h1, h2⟩ := freeL_some hn
  obtain ⟨h3, h4⟩ := mem_marks h1
  have hm := cnfOk_many hc
  have mk : Mk (next c ds) := ⟨hn, by show -60 ≤ next c ds; have : 1 ≤ next c ds := h3; omega, by have : next c ds ≤ c.1 := h4; omega⟩
  obtain ⟨h5, h6⟩ := at_ne h2
  have h7 : next c ds ∉ ds := fun e => h5 (units_pre c.2 ds _ e)
  have h8 : -next c ds ∉ ds := fun e => h6 (by have := units_pre c.2 ds _ e; rw [← mk.wneg] at this; exact this)
  have ha : absW (next c ds) ≤ c.1 := by
    rw [absW_of mk, if_neg (by show ¬ next c ds < 0; have : 1 ≤ next c ds := h3; omega)]; exact h4
  refine ⟨h3, h4, rgt_snoc h mk.neg.1 (by rw [absW_neg mk]; exact ha) (at_of_not h8 (by rw [mk.neg.wneg, Int.neg_neg]; exact h7)), rgt_snoc h hn ha (at_of_not h7 (by rw [mk.wneg]; exact h8))⟩
theorem hunt_step {c : Cnf} {ds : List Int} (hc : cnfOk c = true) (h : Rgt c ds) : hunt c ds = if (unitsS c.2 ds).2 = true then (1, [note ds], [], false)
    else if next c ds = 0 then (1, [], valsL (unitsS c.2 ds).1 (marks c.1), true)
    else both ds (hunt c (ds ++ [-next c ds])) (hunt c (ds ++ [next c ds])) := by
  have hl := rgt_len hc h
  have e1 : 61 - ds.length = (60 - ds.length) + 1 := by omega
  have e2 : ∀ x : Int, 61 - (ds ++ [x]).length = 60 - ds.length := fun x => by simp only [List.length_append, List.length_singleton]; omega
  unfold hunt
  rw [e2, e2, e1]
  rfl
theorem full_cost (c : Cnf) : ∀ (k : Nat) (ds : List Int), 1 ≤ (full c k ds).1 ∧ (full c k ds).2.1.length ≤ (full c k ds).1
  | 0, ds => ⟨Nat.le_refl _, Nat.zero_le _⟩
  | k + 1, ds => by
    have a := full_cost c k (ds ++ [-next c ds])
    have b := full_cost c k (ds ++ [next c ds])
    unfold full
    split
    · exact ⟨Nat.le_refl _, Nat.le_refl _⟩
    · split
      · exact ⟨Nat.le_refl _, Nat.zero_le _⟩
      · unfold both
        split
        · exact ⟨by simp only; omega, by simp only; omega⟩
        · split
          · exact ⟨by simp only; omega, by simp only [List.length_append]; omega⟩
          · exact ⟨by simp only; omega, by simp only [List.length_append, List.length_singleton]; omega⟩
theorem hunt_cost (c : Cnf) (ds : List Int) : 1 ≤ (hunt c ds).1 ∧ (hunt c ds).2.1.length ≤ (hunt c ds).1 := full_cost c _ ds
/-- To go over what is chosen next. -/
theorem hunt_ind {c : Cnf} (hc : cnfOk c = true) {p : List Int → Prop} (bad : ∀ ds, Rgt c ds → (unitsS c.2 ds).2 = true → p ds) (found : ∀ ds, Rgt c ds → (unitsS c.2 ds).2 = false → next c ds = 0 → p ds)
    (step : ∀ ds, Rgt c ds → (unitsS c.2 ds).2 = false → next c ds ≠ 0 → p (ds ++ [-next c ds]) → p (ds ++ [next c ds]) → p ds) : ∀ (n : Nat) (ds : List Int), 61 ≤ ds.length + n → Rgt c ds → p ds
  | 0, ds, hn, h => by have := rgt_len hc h; omega
  | n + 1, ds, hn, h => by
    cases hb : (unitsS c.2 ds).2 with
    | true => exact bad ds h hb
    | false =>
      by_cases h0 : next c ds = 0
      · exact found ds h hb h0
      · obtain ⟨_, _, h1, h2⟩ := next_right hc h h0
        exact step ds h hb h0 (hunt_ind hc bad found step n _ (by simp only [List.length_append, List.length_singleton]; omega) h1) (hunt_ind hc bad found step n _ (by simp only [List.length_append, List.length_singleton]; omega) h2)

/-! ### What is found is true -/

theorem valsL_len (put : List Int) (many : Int) (hm : 0 ≤ many) : ((valsL put (marks many)).length : Int) = many := by
  unfold valsL marks; simp; omega
theorem valsL_get {put : List Int} {many : Int} {k : Nat} (hk : (k : Int) < many) : (valsL put (marks many)).getD k false = decide (at_ ((k : Int) + 1) put = 1) := by
  have h1 : k < many.toNat := by omega
  unfold valsL marks
  simp [h1]
theorem lIs_vals {put : List Int} {many x : Int} (hp : Cons put) (hx : Mk x) (ha : absW x ≤ many) (hm : many ≤ 60) (h : at_ x put = 1) : lIs x (valsL put (marks many)) = true := by
  obtain ⟨h1, h2⟩ := hx.le_abs ha
  have h0 : 0 ≤ many := by
    have := hx.1; omega
  have hl := valsL_len put many h0
  have hin : x ∈ put := by
    clear hl h0 h1 h2 ha
    induction put with
    | nil => cases h
    | cons p r ih =>
      unfold at_ at h
      by_cases e : p = x
      · rw [e]; exact List.mem_cons_self
      · rw [if_neg e] at h
        by_cases e2 : p = Pl.wneg x
        · rw [if_pos e2] at h; cases h
        · rw [if_neg e2] at h
          exact List.mem_cons_of_mem _ (ih (fun y hy => by
            obtain ⟨q1, q2, q3, q4⟩ := hp y (List.mem_cons_of_mem _ hy)
            exact ⟨q1, q2, q3, fun e => q4 (List.mem_cons_of_mem _ e)⟩) h)
  unfold lIs
  rw [if_neg (by rw [hl]; have := hx.1; omega)]
  by_cases hneg : x < 0
  · rw [if_pos hneg, valsL_get (by omega)]
    have e : (((-1 - x).toNat : Nat) : Int) + 1 = -x := by omega
    rw [e]
    have : at_ (-x) put = -1 := at_neg (hp x hin).2.2.2 (by rw [hx.neg.wneg, Int.neg_neg]; exact hin)
    rw [this]; rfl
  · have hx0 := hx.1
    rw [if_neg hneg, valsL_get (by omega)]
    have e : (((x - 1).toNat : Nat) : Int) + 1 = x := by have := hx.1; omega
    rw [e, h]; rfl
theorem leftL_none {put : List Int} : ∀ (c : List Int) (n : Nat) (l : Int), (∀ x ∈ c, at_ x put ≠ 0) → (∀ x ∈ c, at_ x put ≠ 1) → leftL put c n l = (n, l)
  | [], _, _, _, _ => rfl
  | x :: c, n, l, h0, h1 => by
    unfold leftL
    rw [if_neg (h1 x List.mem_cons_self), if_neg (h0 x List.mem_cons_self)]
    exact leftL_none c n l (fun y hy => h0 y (List.mem_cons_of_mem _ hy)) fun y hy => h1 y (List.mem_cons_of_mem _ hy)
theorem at_abs {x : Int} {put : List Int} (hx : Mk x) (h : at_ (x.natAbs : Int) put ≠ 0) : at_ x put ≠ 0 := fun e => by
  obtain ⟨h1, h2⟩ := at_ne e
  rw [hx.wneg] at h2
  refine h ?_
  by_cases hn : x < 0
  · have e1 : (x.natAbs : Int) = -x := by omega
    rw [e1]
    exact at_of_not h2 (by rw [hx.neg.wneg, Int.neg_neg]; exact h1)
  · have e1 : (x.natAbs : Int) = x := by omega
    rw [e1]; exact e
theorem found_true {c : Cnf} {ds : List Int} (hc : cnfOk c = true) (h : Rgt c ds) (hb : (unitsS c.2 ds).2 = false) (hn : next c ds = 0) : cnfIs c (valsL (unitsS c.2 ds).1 (marks c.1)) = true := by
  have hm := cnfOk_many hc
  obtain ⟨h1, h2⟩ := units_fix hc 61 ds (uncov_le ds) h hb
  change scanS (unitsS c.2 ds).1 c.2 = none at h1
  change Rgt c (unitsS c.2 ds).1 at h2
  have hp := rgt_cons hc h2
  have hall := freeL_none (put := (unitsS c.2 ds).1) (l := marks c.1) (fun m hm => by have := mem_marks hm; omega) hn
  unfold cnfIs
  rw [hc, decide_eq_true (valsL_len _ c.1 hm.1)]
  simp only [Bool.true_and, List.all_eq_true]
  intro cl hcl
  have hcl' := cnfOk_cl hc cl hcl
  have hfree : ∀ x ∈ cl, at_ x (unitsS c.2 ds).1 ≠ 0 := fun x hx => by
    obtain ⟨h3, h4⟩ := hcl' x hx
    obtain ⟨h5, h6⟩ := h3.le_abs h4
    exact at_abs h3 (hall _ (marks_mem (by have := h3.1; omega) (by omega)))
  have : ∃ x ∈ cl, at_ x (unitsS c.2 ds).1 = 1 := Classical.byContradiction fun e => by
    have := (scanS_none h1 cl hcl).1
    unfold left at this
    rw [leftL_none cl 0 0 hfree fun x hx h => e ⟨x, hx, h⟩] at this
    exact this rfl
  obtain ⟨x, hx, h3⟩ := this
  unfold clauseIs
  rw [List.any_eq_true]
  exact ⟨x, hx, lIs_vals hp (hcl' x hx).1 (hcl' x hx).2 hm.2 h3⟩
theorem hunt_found {c : Cnf} (hc : cnfOk c = true) : ∀ (n : Nat) (ds : List Int), 61 ≤ ds.length + n → Rgt c ds → ((hunt c ds).2.2.2 = true → cnfIs c (hunt c ds).2.2.1 = true) ∧ ((hunt c ds).2.2.2 = false → (hunt c ds).2.2.1 = []) :=
  hunt_ind hc (fun ds h hb => by
      rw [hunt_step hc h, if_pos hb]; exact ⟨fun h => (by cases h), fun _ => rfl⟩)
    (fun ds h hb hn => by
      rw [hunt_step hc h, if_neg (by rw [hb]; simp), if_pos hn]; exact ⟨fun _ => found_true hc h hb hn, fun h => (by cases h)⟩)
    (fun ds h hb hn ha hb' => by
      rw [hunt_step hc h, if_neg (by rw [hb]; simp), if_neg hn]
      unfold both
      split
      · rename_i e; exact ⟨fun _ => ha.1 e, fun h => (by cases h)⟩
      · split
        · rename_i e; exact ⟨fun _ => hb'.1 e, fun h => (by cases h)⟩
        · exact ⟨fun h => (by cases h), fun _ => rfl⟩)

/-! ### What is noted follows -/

theorem asc_spec' : ∀ {l : List Int} {last many : Int}, 0 ≤ many ∧ many ≤ 60 → Asc l → (∀ x ∈ l, Mrk x ∧ last < x.natAbs ∧ (x.natAbs : Int) ≤ many) → specLoop many last l = true
  | [], _, _, hm, _, _ => by simp [specLoop]; omega
  | x :: l, last, many, hm, ha, hl => by
    obtain ⟨a1, a2⟩ := List.pairwise_cons.1 ha
    obtain ⟨h1, h2, h3⟩ := hl x List.mem_cons_self
    simp only [specLoop]
    rw [absW_mrk h1, decide_eq_false (by omega), decide_eq_false (by omega)]
    exact asc_spec' hm a2 fun y hy => ⟨(hl y (List.mem_cons_of_mem _ hy)).1, by have := a1 y hy; omega, (hl y (List.mem_cons_of_mem _ hy)).2.2⟩
theorem note_spec {c : Cnf} {ds : List Int} (hc : cnfOk c = true) (h : Rgt c ds) : specClause (note ds) c.1 = true ∧ (∀ z, z ∈ note ds ↔ -z ∈ ds) ∧ (note ds).Nodup := by
  have hm := cnfOk_many hc
  have hp := rgt_cons hc h
  have hk := rgt_mk hm.2 h
  have hn : ∀ z, z ∈ nots ds ↔ -z ∈ ds := fun z => by
    unfold nots
    rw [List.mem_map]
    constructor
    · rintro ⟨y, hy, rfl⟩; rw [(hk y hy).1.wneg, Int.neg_neg]; exact hy
    · intro hz; exact ⟨-z, hz, by rw [(hk _ hz).1.wneg, Int.neg_neg]⟩
  have hf : (nots ds).all (fineMark (nots ds)) = true := List.all_eq_true.2 fun x hx => (fine_iff _ x).2 (by
    have h1 := (hn x).1 hx
    obtain ⟨h2, h3, h4, h5⟩ := hp _ h1
    exact ⟨⟨by omega, by omega, by omega⟩, fun e => by have := (hn _).1 e; exact h5 (by simpa using this)⟩)
  obtain ⟨h1, h2, h3⟩ := clauseOf_yes hf
  have hmem : ∀ z, z ∈ note ds ↔ -z ∈ ds := fun z => by unfold note; rw [h3, hn]
  refine ⟨asc_spec' hm h2 fun x hx => ?_, hmem, h2.imp fun h e => by subst e; omega⟩
  have h4 := (hmem x).1 hx
  obtain ⟨h5, h6⟩ := hk _ h4
  obtain ⟨h7, h8⟩ := h5.le_abs h6
  have h9 := h5.1
  exact ⟨⟨by omega, by have := h5.2.2; omega, by have := h5.2.1; omega⟩, by omega, by omega⟩
theorem leftL_eq {put put' : List Int} : ∀ (c : List Int) (n : Nat) (l : Int), (∀ x ∈ c, at_ x put = at_ x put') → leftL put c n l = leftL put' c n l
  | [], _, _, _ => rfl
  | x :: c, n, l, h => by
    unfold leftL
    rw [h x List.mem_cons_self, leftL_eq c _ _ fun y hy => h y (List.mem_cons_of_mem _ hy), leftL_eq c _ _ fun y hy => h y (List.mem_cons_of_mem _ hy)]
theorem at_keep {put put' : List Int} (hp : Cons put') (hs : ∀ x ∈ put, x ∈ put') {x : Int} (hx : Mk x) (h : at_ x put = -1) : at_ x put' = -1 := by
  have h1 := hs _ (at_mem h)
  exact at_neg (fun e => by
    rw [hx.wneg] at h1
    exact (hp x e).2.2.2 h1) h1
/-- What follows of less follows of more. -/
theorem units_mono {list list' : List (List Int)} (hl : ∀ c ∈ list, c ∈ list' ∧ ∀ x ∈ c, Mk x) {put' : List Int} (hp : Cons put') (hfix : scanS put' list' = none) :
    ∀ (k : Nat) (put : List Int), (∀ x ∈ put, x ∈ put') → (unitsF scanS list k put).2 = false ∧ ∀ x ∈ (unitsF scanS list k put).1, x ∈ put'
  | 0, put, hs => ⟨rfl, hs⟩
  | k + 1, put, hs => by
    unfold unitsF
    split
    · exact ⟨rfl, hs⟩
    · rename_i h
      obtain ⟨c, hc, h1⟩ := scanS_bad h
      have h2 := (leftL_zero c 0 0 h1).2
      refine absurd ?_ (scanS_none hfix c (hl c hc).1).1
      unfold left
      rw [leftL_falls c 0 0 fun x hx => at_keep hp hs ((hl c hc).2 x hx) (h2 x hx)]
    · rename_i l h
      obtain ⟨c, hc, h1, h2⟩ := scanS_unit h
      obtain ⟨h3, h4⟩ := left_one h1
      rw [h2] at h3 h4
      have hlast : ∀ x ∈ c, at_ x put = -1 ∨ x = l := fun x hx => (leftL_last c 0 h1 x hx).imp id fun e => by rw [e]; exact h2
      have hmk := (hl c hc).2
      have hin : l ∈ put' := Classical.byContradiction fun hno => by
        rcases at_cases (n := l) put' with e | e | e
        · exact hno (by
            clear hlast h4 h1 h2 hs hfix hp
            induction put' with
            | nil => cases e
            | cons p r ih =>
              unfold at_ at e
              by_cases e1 : p = l
              · rw [e1]; exact List.mem_cons_self
              · rw [if_neg e1] at e
                by_cases e2 : p = Pl.wneg l
                · rw [if_pos e2] at e; cases e
                · rw [if_neg e2] at e
                  exact List.mem_cons_of_mem _ (ih (fun h => hno (List.mem_cons_of_mem _ h)) e))
        · refine (scanS_none hfix c (hl c hc).1).1 ?_
          unfold left
          rw [leftL_falls c 0 0 fun x hx => by
            rcases hlast x hx with e1 | e1
            · exact at_keep hp hs (hmk x hx) e1
            · rw [e1]; exact e]
        · refine (scanS_none hfix c (hl c hc).1).2 ?_
          rw [← h1]
          unfold left
          have same : ∀ x ∈ c, at_ x put' = at_ x put := fun x hx => by
            by_cases e2 : x = l
            · rw [e2, e, h4]
            · rw [(hlast x hx).resolve_right e2]; exact (at_keep hp hs (hmk x hx) ((hlast x hx).resolve_right e2))
          rw [leftL_eq c 0 0 same]
      exact units_mono hl hp hfix k _ fun x hx => by
        rcases List.mem_append.1 hx with e | e
        · exact hs x e
        · rw [List.mem_singleton.1 e]; exact hin
/-- A mark of a clause whose others fall. -/
theorem leftL_lone {put : List Int} {m : Int} : ∀ (c : List Int) (l : Int), c.Nodup → m ∈ c → (∀ x ∈ c, at_ x put = -1 ∨ x = m) → at_ m put = 0 → (leftL put c 0 l).1 = 1
  | [], _, _, h, _, _ => by cases h
  | x :: c, l, hn, hm, ha, h0 => by
    obtain ⟨n1, n2⟩ := List.nodup_cons.1 hn
    have ha' : ∀ y ∈ c, at_ y put = -1 ∨ y = m := fun y hy => ha y (List.mem_cons_of_mem _ hy)
    unfold leftL
    by_cases e : x = m
    · subst e
      rw [h0, if_neg (by decide), if_pos rfl, leftL_falls c _ _ fun y hy => (ha' y hy).resolve_right fun e => n1 (by rw [← e]; exact hy)]
    · have h1 := (ha x List.mem_cons_self).resolve_right e
      rw [h1, if_neg (by decide), if_neg (by decide)]
      exact leftL_lone c l n2 ((List.mem_cons.1 hm).resolve_left fun e' => e e'.symm) ha' h0
theorem fix_lone {put : List Int} {list : List (List Int)} {cl : List Int} {m : Int} (hfix : scanS put list = none) (hc : cl ∈ list) (hn : cl.Nodup) (hm : m ∈ cl) (ha : ∀ x ∈ cl, at_ x put = -1 ∨ x = m) : at_ m put = 1 := by
  rcases at_cases (n := m) put with e | e | e
  · exact e
  · refine absurd ?_ (scanS_none hfix cl hc).1
    unfold left
    rw [leftL_falls cl 0 0 fun x hx => by
      rcases ha x hx with e1 | e1
      · exact e1
      · rw [e1]; exact e]
  · exact absurd (leftL_lone cl 0 hn hm ha e) (scanS_none hfix cl hc).2
theorem at_one_mem {n : Int} : ∀ {put : List Int}, at_ n put = 1 → n ∈ put
  | [], h => by cases h
  | p :: r, h => by
    unfold at_ at h
    by_cases e1 : p = n
    · rw [e1]; exact List.mem_cons_self
    · rw [if_neg e1] at h
      by_cases e2 : p = Pl.wneg n
      · rw [if_pos e2] at h; cases h
      · rw [if_neg e2] at h; exact List.mem_cons_of_mem _ (at_one_mem h)
theorem rgt_nots {c : Cnf} {cl : List Int} (hc : cnfOk c = true) (h : specClause cl c.1 = true) : Rgt c (nots cl) := by
  have hm := cnfOk_many hc
  have key : ∀ (l : List Int) (last : Int) (done : List Int), 0 ≤ last → specLoop c.1 last l = true → (∀ x ∈ done, absW x ≤ last ∧ Mk x) → rightS c.1 done (nots l) = true := by
    intro l
    induction l with
    | nil => intros; rfl
    | cons y l ih =>
      intro last done h0 h hd
      have hmk := (specLoop_mk h0 h).2 y List.mem_cons_self
      simp only [specLoop] at h
      cases hcc : (decide (absW y ≤ last) || decide (absW y > c.1))
      · rw [hcc] at h
        simp only [cond_false] at h
        have e : nots (y :: l) = -y :: nots l := by simp only [nots, List.map_cons, hmk.1.wneg]
        rw [e]
        simp only [rightS, Bool.and_eq_true, Bool.not_eq_true', Bool.or_eq_false_iff, decide_eq_false_iff_not]
        have far : ∀ x ∈ done, x ≠ y ∧ x ≠ -y := fun x hx => by
          have := (hd x hx).1
          exact ⟨fun e => by subst e; omega, fun e => by subst e; rw [absW_neg hmk.1] at this; omega⟩
        refine ⟨⟨⟨hmk.1.neg.1, by rw [absW_neg hmk.1]; omega⟩, ?_⟩, ih (absW y) _ (by omega) h fun x hx => ?_⟩
        · rw [at_of_not (fun e => (far _ e).2 rfl) (by rw [hmk.1.neg.wneg, Int.neg_neg]; exact fun e => (far _ e).1 rfl)]; simp
        · rcases List.mem_append.1 hx with e | e
          · exact ⟨by have := (hd x e).1; omega, (hd x e).2⟩
          · rw [List.mem_singleton.1 e]; exact ⟨by rw [absW_neg hmk.1]; omega, hmk.1.neg⟩
      · rw [hcc] at h; cases h
  exact key cl 0 [] (Int.le_refl 0) h fun x hx => by cases hx
/-- A clause follows if no fixed point holds its marks the other way. -/
theorem rup_of {c : Cnf} {cl : List Int} (hc : cnfOk c = true) (hs : specClause cl c.1 = true) (h : ∀ put, Cons put → scanS put c.2 = none → (∀ x ∈ cl, -x ∈ put) → False) : rup c cl = true := by
  unfold rup
  rw [hc, hs]
  simp only [Bool.true_and]
  cases hb : (unitsS c.2 (nots cl)).2 with
  | true => rfl
  | false =>
    exfalso
    have hr := rgt_nots hc hs
    obtain ⟨h1, h2⟩ := units_fix hc 61 (nots cl) (uncov_le _) hr hb
    refine h _ (rgt_cons hc h2) h1 fun x hx => units_pre c.2 (nots cl) _ ?_
    have := specClause_mk hs x hx
    rw [← this.wneg]
    exact List.mem_map.2 ⟨x, hx, rfl⟩
theorem cnfOk_more {c : Cnf} {L : List (List Int)} (hc : cnfOk c = true) (hL : ∀ x ∈ L, specClause x c.1 = true) (hn : c.2.length + L.length ≤ 400) : cnfOk (c.1, c.2 ++ L) = true := by
  simp only [cnfOk, Bool.and_eq_true, decide_eq_true_eq, List.all_eq_true, List.length_append] at hc ⊢
  exact ⟨⟨hc.1.1, hn⟩, fun x hx => (List.mem_append.1 hx).elim (hc.2 x) (hL x)⟩
theorem rup_bad {c : Cnf} {L : List (List Int)} {ds : List Int} (hc : cnfOk c = true) (hL : ∀ x ∈ L, specClause x c.1 = true) (hn : c.2.length + L.length ≤ 400) (h : Rgt c ds) (hb : (unitsS c.2 ds).2 = true) : rup (c.1, c.2 ++ L) (note ds) = true := by
  obtain ⟨h1, h2, _⟩ := note_spec hc h
  refine rup_of (cnfOk_more hc hL hn) h1 fun put hp hfix hx => ?_
  have := (units_mono (list := c.2) (list' := c.2 ++ L) (fun cl hcl => ⟨List.mem_append_left _ hcl, cnfOk_mk hc cl hcl⟩) hp hfix 61 ds fun x hx' => by
    have := hx (-x) ((h2 _).2 (by simpa using hx'))
    simpa using this).1
  unfold unitsS at hb
  rw [hb] at this; cases this
theorem rup_both {c : Cnf} {L : List (List Int)} {ds : List Int} {m : Int} (hc : cnfOk c = true) (hL : ∀ x ∈ L, specClause x c.1 = true) (hn : c.2.length + L.length ≤ 400) (h : Rgt c ds) (ha : Rgt c (ds ++ [-m])) (hb : Rgt c (ds ++ [m]))
    (h1 : note (ds ++ [-m]) ∈ L) (h2 : note (ds ++ [m]) ∈ L) : rup (c.1, c.2 ++ L) (note ds) = true := by
  obtain ⟨n1, n2, _⟩ := note_spec hc h
  obtain ⟨_, a2, a3⟩ := note_spec hc ha
  obtain ⟨_, b2, b3⟩ := note_spec hc hb
  refine rup_of (cnfOk_more hc hL hn) n1 fun put hp hfix hx => ?_
  have hds : ∀ x ∈ ds, x ∈ put := fun x hx' => by
    have := hx (-x) ((n2 _).2 (by simpa using hx'))
    simpa using this
  have fall : ∀ x, -x ∈ ds → Mk x → at_ x put = -1 := fun x hx' hk => by
    have h3 := hds _ hx'
    exact at_neg (fun e => (hp x e).2.2.2 h3) (by rw [hk.wneg]; exact h3)
  have hm := cnfOk_many hc
  have go : ∀ s : Int, Rgt c (ds ++ [-s]) → note (ds ++ [-s]) ∈ L → (∀ z, z ∈ note (ds ++ [-s]) ↔ -z ∈ ds ++ [-s]) → (note (ds ++ [-s])).Nodup → s ∈ put := fun s hr hin hmem hnd => by
    refine at_one_mem (fix_lone hfix (List.mem_append_right _ hin) hnd ((hmem s).2 (by simp)) fun x hx' => ?_)
    have h4 := (hmem x).1 hx'
    rcases List.mem_append.1 h4 with e | e
    · have hk := (rgt_mk hm.2 h _ e).1.neg
      rw [Int.neg_neg] at hk
      exact .inl (fall x e hk)
    · have := List.mem_singleton.1 e
      exact .inr (by omega)
  have p1 := go m ha h1 a2 a3
  have p2 := go (-m) (by rw [Int.neg_neg]; exact hb) (by rw [Int.neg_neg]; exact h2) (by rw [Int.neg_neg]; exact b2) (by rw [Int.neg_neg]; exact b3)
  exact (hp m p1).2.2.2 p2
/-- Each clause follows of those ahead of it. -/
def Chain (c : Cnf) : List (List Int) → List (List Int) → Prop
  | _, [] => True
  | L, x :: r => specClause x c.1 = true ∧ rup (c.1, c.2 ++ L) x = true ∧ Chain c (L ++ [x]) r
theorem chain_append {c : Cnf} : ∀ {a : List (List Int)} {L b : List (List Int)}, Chain c L a → Chain c (L ++ a) b → Chain c L (a ++ b)
  | [], L, b, _, h => by simpa using h
  | x :: a, L, b, h, h' => ⟨h.1, h.2.1, chain_append h.2.2 (by simpa using h')⟩
theorem chain_spec {c : Cnf} : ∀ {a : List (List Int)} {L : List (List Int)}, Chain c L a → ∀ x ∈ a, specClause x c.1 = true
  | [], _, _, x, hx => by cases hx
  | y :: a, L, h, x, hx => by
    cases List.mem_cons.1 hx with
    | inl e => subst e; exact h.1
    | inr e => exact chain_spec h.2.2 x e
theorem hunt_chain {c : Cnf} (hc : cnfOk c = true) : ∀ (n : Nat) (ds : List Int), 61 ≤ ds.length + n → Rgt c ds → ∀ L : List (List Int), (∀ x ∈ L, specClause x c.1 = true) → c.2.length + L.length + (hunt c ds).2.1.length ≤ 400 →
    Chain c L (hunt c ds).2.1 ∧ ((hunt c ds).2.2.2 = false → ∃ r, (hunt c ds).2.1 = r ++ [note ds]) :=
  hunt_ind hc (p := fun ds => ∀ L : List (List Int), (∀ x ∈ L, specClause x c.1 = true) → c.2.length + L.length + (hunt c ds).2.1.length ≤ 400 →
    Chain c L (hunt c ds).2.1 ∧ ((hunt c ds).2.2.2 = false → ∃ r, (hunt c ds).2.1 = r ++ [note ds])) (fun ds h hb L hL hn => by
      rw [hunt_step hc h, if_pos hb] at hn ⊢
      exact ⟨⟨(note_spec hc h).1, rup_bad hc hL (by simp only [List.length_singleton] at hn; omega) h hb, trivial⟩, fun _ => ⟨[], rfl⟩⟩)
    (fun ds h hb hn L hL hn' => by
      rw [hunt_step hc h, if_neg (by rw [hb]; simp), if_pos hn]; exact ⟨trivial, fun h => (by cases h)⟩)
    (fun ds h hb hn ha hb' L hL hn' => by
      obtain ⟨_, _, r1, r2⟩ := next_right hc h hn
      rw [hunt_step hc h, if_neg (by rw [hb]; simp), if_neg hn] at hn' ⊢
      unfold both at hn' ⊢
      by_cases e1 : (hunt c (ds ++ [-next c ds])).2.2.2 = true
      · rw [if_pos e1] at hn' ⊢
        exact ⟨(ha L hL hn').1, fun h => (by cases h)⟩
      · rw [if_neg e1] at hn' ⊢
        by_cases e2 : (hunt c (ds ++ [next c ds])).2.2.2 = true
        · rw [if_pos e2] at hn' ⊢
          simp only [List.length_append] at hn'
          obtain ⟨a1, _⟩ := ha L hL (by omega)
          have hL2 : ∀ x ∈ L ++ (hunt c (ds ++ [-next c ds])).2.1, specClause x c.1 = true := fun x hx => (List.mem_append.1 hx).elim (hL x) (chain_spec a1 x)
          exact ⟨chain_append a1 (hb' _ hL2 (by simp only [List.length_append]; omega)).1, fun h => (by cases h)⟩
        · rw [if_neg e2] at hn' ⊢
          simp only [List.length_append, List.length_singleton] at hn'
          obtain ⟨a1, a2⟩ := ha L hL (by omega)
          have hL2 : ∀ x ∈ L ++ (hunt c (ds ++ [-next c ds])).2.1, specClause x c.1 = true := fun x hx => (List.mem_append.1 hx).elim (hL x) (chain_spec a1 x)
          obtain ⟨b1, b2⟩ := hb' _ hL2 (by simp only [List.length_append]; omega)
          have hL3 : ∀ x ∈ L ++ ((hunt c (ds ++ [-next c ds])).2.1 ++ (hunt c (ds ++ [next c ds])).2.1), specClause x c.1 = true := fun x hx => by
            rw [← List.append_assoc] at hx
            exact (List.mem_append.1 hx).elim (hL2 x) (chain_spec b1 x)
          refine ⟨chain_append (chain_append a1 b1) ⟨(note_spec hc h).1, rup_both hc hL3 (by simp only [List.length_append]; omega) h r1 r2 ?_ ?_, trivial⟩, fun _ => ⟨_, rfl⟩⟩
          · obtain ⟨r, e⟩ := a2 (Bool.eq_false_iff.2 e1)
            rw [e]; simp
          · obtain ⟨r, e⟩ := b2 (Bool.eq_false_iff.2 e2)
            rw [e]; simp)
theorem logAll_of {c : Cnf} {log : List (List Int)} : ∀ (n i : Nat), i + n = log.length → Chain c (log.take i) (log.drop i) → logAll c log i = true
  | 0, i, hi, _ => logAll_end c (by omega)
  | n + 1, i, hi, h => by
    have hlt : i < log.length := by omega
    rw [logAll_step c hlt]
    have e : log.drop i = log.getD i [] :: log.drop (i + 1) := by
      rw [List.drop_eq_getElem_cons hlt]; simp [hlt]
    rw [e] at h
    rw [h.2.1, Bool.true_and]
    exact logAll_of n (i + 1) (by omega) (by rw [take_succ_getD [] hlt]; exact h.2.2)
/-- What a search that found nothing noted is a log that ends. -/
theorem hunt_log {c : Cnf} (hc : cnfOk c = true) (hf : (hunt c []).2.2.2 = false) (h130 : (hunt c []).1 ≤ 130) (hn : c.2.length + (hunt c []).2.1.length ≤ 400) : logOk c (hunt c []).2.1 = true ∧ ∃ r, (hunt c []).2.1 = r ++ [[]] := by
  obtain ⟨h1, h2⟩ := hunt_chain hc 61 [] (by simp) (rgt_nil c) [] (fun x hx => by cases hx) (by simpa using hn)
  have h3 := hunt_cost c []
  refine ⟨?_, h2 hf⟩
  unfold logOk
  rw [hc, decide_eq_true (by omega), decide_eq_true hn]
  simp only [Bool.true_and]
  exact logAll_of _ 0 (Nat.zero_add _) h1

/-! ### More that is given -/

theorem pin_spec {many m : Int} (hm : many ≤ 60) (h1 : 1 ≤ m) (h2 : m ≤ many) (b : Bool) : specClause [if b = true then m else -m] many = true := by
  have : ∀ x : Int, Mrk x → (x.natAbs : Int) ≤ many → specClause [x] many = true := fun x hx ha =>
    asc_spec' ⟨by omega, hm⟩ (List.pairwise_singleton _ _) fun y hy => by rw [List.mem_singleton.1 hy]; exact ⟨hx, by have := hx.1; omega, ha⟩
  cases b
  · exact this (-m) ⟨by omega, by omega, by omega⟩ (by omega)
  · exact this m ⟨by omega, by omega, by omega⟩ (by omega)
theorem pins_ok {c : Cnf} {vals : List Bool} (hc : cnfOk c = true) (hv : (vals.length : Int) = c.1) (hn : c.2.length + vals.length ≤ 400) : cnfOk (c.1, c.2 ++ pins vals) = true := by
  have hm := cnfOk_many hc
  refine cnfOk_more hc (fun x hx => ?_) (by unfold pins; simpa using hn)
  obtain ⟨i, hi, rfl⟩ := List.mem_map.1 hx
  have := List.mem_range.1 hi
  exact pin_spec hm.2 (by omega) (by omega) _
theorem lIs_pin {vals : List Bool} {i : Nat} (hi : i < vals.length) : lIs (if vals.getD i false = true then (i : Int) + 1 else -((i : Int) + 1)) vals = true := by
  unfold lIs
  cases h : vals.getD i false
  · simp only [Bool.false_eq_true, if_false]
    rw [if_neg (by omega), if_pos (by omega)]
    have e : (-1 - -((i : Int) + 1)).toNat = i := by omega
    rw [e, h]; rfl
  · simp only [if_true]
    rw [if_neg (by omega), if_neg (by omega)]
    have e : ((i : Int) + 1 - 1).toNat = i := by omega
    rw [e, h]
theorem pins_is {c : Cnf} {vals : List Bool} (h : cnfIs c vals = true) (hn : c.2.length + vals.length ≤ 400) : cnfIs (c.1, c.2 ++ pins vals) vals = true := by
  have h' := h
  simp only [cnfIs, Bool.and_eq_true, decide_eq_true_eq, List.all_eq_true] at h'
  unfold cnfIs
  rw [pins_ok h'.1.1 h'.1.2 hn, decide_eq_true h'.1.2]
  simp only [Bool.true_and, List.all_eq_true]
  intro x hx
  rcases List.mem_append.1 hx with e | e
  · exact h'.2 x e
  · obtain ⟨i, hi, rfl⟩ := List.mem_map.1 e
    simp only [clauseIs, List.any_cons, List.any_nil, Bool.or_false]
    exact lIs_pin (List.mem_range.1 hi)
/-- With what was found given, that is found. -/
theorem hunt_pins {c : Cnf} {vals : List Bool} (h : cnfIs c vals = true) (hn : c.2.length + vals.length ≤ 400) : hunt (c.1, c.2 ++ pins vals) [] = (1, [], vals, true) := by
  have h' := h
  simp only [cnfIs, Bool.and_eq_true, decide_eq_true_eq, List.all_eq_true] at h'
  have hc := pins_ok h'.1.1 h'.1.2 hn
  have hm := cnfOk_many hc
  have hlen := h'.1.2
  obtain ⟨h1, h2⟩ := units_true (cnfIs_cl (pins_is h hn)) 61 [] fun x hx => by cases hx
  change (unitsS (c.2 ++ pins vals) []).2 = false at h1
  have h2' : ∀ x ∈ (unitsS (c.2 ++ pins vals) []).1, lIs x vals = true := h2
  obtain ⟨h3, h4⟩ := units_fix hc 61 [] (uncov_le _) rfl h1
  change scanS (unitsS (c.2 ++ pins vals) []).1 (c.2 ++ pins vals) = none at h3
  change Rgt (c.1, c.2 ++ pins vals) (unitsS (c.2 ++ pins vals) []).1 at h4
  have hp := rgt_cons hc h4
  generalize hput : (unitsS (c.2 ++ pins vals) []).1 = put at *
  have pin : ∀ i, i < vals.length → (if vals.getD i false = true then (i : Int) + 1 else -((i : Int) + 1)) ∈ put := fun i hi => by
    have hin : [if vals.getD i false = true then (i : Int) + 1 else -((i : Int) + 1)] ∈ c.2 ++ pins vals := List.mem_append_right _ (List.mem_map.2 ⟨i, List.mem_range.2 hi, rfl⟩)
    exact at_one_mem (fix_lone h3 hin (List.nodup_cons.2 ⟨by simp, List.nodup_nil⟩) List.mem_cons_self fun x hx => .inr (List.mem_singleton.1 hx))
  have hat : ∀ i : Nat, i < vals.length → at_ ((i : Int) + 1) put = if vals.getD i false = true then 1 else -1 := fun i hi => by
    have hk : Mk ((i : Int) + 1) := ⟨by omega, by omega, by have := hm.2; change c.1 ≤ 60 at this; omega⟩
    have := pin i hi
    cases hv : vals.getD i false
    · rw [hv] at this
      simp only [Bool.false_eq_true, if_false] at this ⊢
      exact at_neg (fun e => (hp _ e).2.2.2 this) (by rw [hk.wneg]; exact this)
    · rw [hv] at this
      simp only [if_true] at this ⊢
      exact at_pos (fun e => by rw [hk.wneg] at e; exact (hp _ this).2.2.2 e) this
  have hnext : next (c.1, c.2 ++ pins vals) [] = 0 := Classical.byContradiction fun e => by
    obtain ⟨h5, h6⟩ := freeL_some e
    obtain ⟨h7, h8⟩ := mem_marks h5
    change at_ (next (c.1, c.2 ++ pins vals) []) (unitsS (c.2 ++ pins vals) []).1 = 0 at h6
    change 1 ≤ next (c.1, c.2 ++ pins vals) [] at h7
    change next (c.1, c.2 ++ pins vals) [] ≤ c.1 at h8
    rw [hput] at h6
    have := hat (next (c.1, c.2 ++ pins vals) [] - 1).toNat (by omega)
    have e2 : (((next (c.1, c.2 ++ pins vals) [] - 1).toNat : Nat) : Int) + 1 = next (c.1, c.2 ++ pins vals) [] := by omega
    rw [e2, h6] at this
    split at this <;> cases this
  rw [hunt_step hc (rgt_nil _), if_neg (by rw [h1]; simp), if_pos hnext]
  refine Prod.ext rfl (Prod.ext rfl (Prod.ext ?_ rfl))
  show valsL (unitsS (c.2 ++ pins vals) []).1 (marks c.1) = vals
  rw [hput]
  refine List.ext_getElem ?_ fun i h5 h6 => ?_
  · have := valsL_len put c.1 hm.1; omega
  · have e1 : (valsL put (marks c.1))[i] = (valsL put (marks c.1)).getD i false := by simp [h5]
    have e2 : vals[i] = vals.getD i false := by simp [h6]
    rw [e1, e2, valsL_get (by omega), hat i h6]
    cases vals.getD i false <;> rfl
theorem specLoop_len {many : Int} : ∀ {l : List Int} {last : Int}, 0 ≤ last → last ≤ many → specLoop many last l = true → (l.length : Int) + last ≤ many
  | [], last, _, h, _ => by simpa using h
  | x :: l, last, h0, h, hs => by
    simp only [specLoop] at hs
    cases hcc : (decide (absW x ≤ last) || decide (absW x > many))
    · rw [hcc] at hs
      simp only [cond_false] at hs
      simp only [Bool.or_eq_false_iff, decide_eq_false_iff_not] at hcc
      have := specLoop_len (by omega) (by omega) hs
      simp only [List.length_cons]; push_cast; omega
    · rw [hcc] at hs; cases hs
theorem spec_len {c : Cnf} {l : List Int} (hc : cnfOk c = true) (h : specClause l c.1 = true) : l.length ≤ 60 := by
  have hm := cnfOk_many hc
  have := specLoop_len (Int.le_refl 0) hm.1 h
  omega
/-- What a search tells. -/
theorem huntRun_cases (c : Cnf) (fuel : Int) : huntRun c fuel = ([], [], false) ∨
    (cnfOk c = true ∧ 0 ≤ fuel ∧ fuel ≤ 130 ∧ ((hunt c []).1 : Int) ≤ fuel ∧
      ((cnfIs c (hunt c []).2.2.1 = true ∧ huntRun c fuel = ((hunt c []).2.2.1, [], true)) ∨
       ((hunt c []).2.2.2 = false ∧ c.2.length + (hunt c []).2.1.length ≤ 400 ∧ (∃ r, (hunt c []).2.1 = r ++ [[]]) ∧ logOk c (hunt c []).2.1 = true ∧ huntRun c fuel = ([], (hunt c []).2.1, true)))) := by
  unfold huntRun
  split
  · rename_i h
    obtain ⟨h1, h2, h3, h4⟩ := h
    cases hf : (hunt c []).2.2.2 with
    | true =>
      rw [if_pos rfl]
      exact .inr ⟨h1, h2, h3, h4, .inl ⟨(hunt_found h1 61 [] (by simp) (rgt_nil c)).1 hf, rfl⟩⟩
    | false =>
      rw [if_neg (by simp)]
      split
      · exact .inl rfl
      · rename_i h5
        obtain ⟨g1, g2⟩ := hunt_log h1 hf (by omega) (by omega)
        exact .inr ⟨h1, h2, h3, h4, .inr ⟨rfl, by omega, g2, g1, rfl⟩⟩
  · exact .inl rfl
theorem logOk_len {c : Cnf} {log : List (List Int)} (h : logOk c log = true) : log.length ≤ 130 ∧ ∀ x ∈ log, x.length ≤ 60 := by
  unfold logOk at h
  simp only [Bool.and_eq_true, decide_eq_true_eq] at h
  obtain ⟨⟨⟨h1, h2⟩, h3⟩, h4⟩ := h
  refine ⟨h2, fun x hx => ?_⟩
  obtain ⟨i, hi, rfl⟩ := List.getElem_of_mem hx
  unfold logAll at h4
  have := List.all_eq_true.1 h4 i (List.mem_range'.2 ⟨i, by omega, by omega⟩)
  unfold rup at this
  simp only [Bool.and_eq_true] at this
  have h5 := spec_len h1 this.1.2
  simpa [hi] using h5
theorem huntRun_sz (c : Cnf) (fuel : Int) : (huntRun c fuel).1.length ≤ 60 ∧ (huntRun c fuel).2.1.length ≤ 130 ∧ ∀ x ∈ (huntRun c fuel).2.1, x.length ≤ 60 := by
  rcases huntRun_cases c fuel with e | ⟨hc, _, _, _, ⟨h, e⟩ | ⟨_, _, _, h, e⟩⟩
  · rw [e]; exact ⟨Nat.zero_le _, Nat.zero_le _, fun x hx => by cases hx⟩
  · rw [e]
    have hm := cnfOk_many hc
    simp only [cnfIs, Bool.and_eq_true, decide_eq_true_eq] at h
    refine ⟨?_, Nat.zero_le _, fun x hx => by cases hx⟩
    have := h.1.2
    show (hunt c []).2.2.1.length ≤ 60
    omega
  · rw [e]; exact ⟨Nat.zero_le _, (logOk_len h).1, (logOk_len h).2⟩
/-- With more to spend what was found is found. -/
theorem huntRun_more {c : Cnf} {fuel : Int} (h : (huntRun c fuel).2.2 = true) : huntRun c 130 = huntRun c fuel := by
  unfold huntRun at h ⊢
  split at h
  · rename_i h1
    rw [if_pos ⟨h1.1, by omega, by omega, by omega⟩, if_pos h1]
  · cases h
theorem pins_get {vals : List Bool} {k : Nat} (h : k < vals.length) : (pins vals).take (k + 1) = (pins vals).take k ++ [[if vals.getD k false = true then (k : Int) + 1 else -((k : Int) + 1)]] := by
  rw [take_succ_getD [] (by unfold pins; simpa using h)]
  congr 1
  unfold pins
  simp [h]
theorem pins_len (vals : List Bool) : (pins vals).length = vals.length := by unfold pins; simp
theorem huntRun_pins {c : Cnf} {vals : List Bool} (h : cnfIs c vals = true) (hn : c.2.length + vals.length ≤ 400) : huntRun (c.1, c.2 ++ pins vals) 130 = (vals, [], true) := by
  have h' := h
  simp only [cnfIs, Bool.and_eq_true, decide_eq_true_eq, List.all_eq_true] at h'
  unfold huntRun
  rw [hunt_pins h hn, if_pos ⟨pins_ok h'.1.1 h'.1.2 hn, by omega, by omega, by show ((1 : Nat) : Int) ≤ 130; omega⟩]
  rfl
end Pl
