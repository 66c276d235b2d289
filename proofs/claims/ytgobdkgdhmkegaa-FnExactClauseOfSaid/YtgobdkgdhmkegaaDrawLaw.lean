/-
  Drawn clause sets: plain laws. No condition.
-/
import Derived.Test.YtgobdkgdhmkegaaDrawDefs
import Derived.Test.YtgobdkgdhmkegaaUnitsLaw
set_option linter.unusedVariables false
set_option linter.unusedSimpArgs false
namespace Pl
open Go Cg

theorem putS_len : ∀ (l : List Int) (n : Int), (putS l n).1.length ≤ l.length + 1
  | [], n => by simp [putS]
  | x :: xs, n => by
    have := putS_len xs n
    simp only [putS]
    split
    · simp only [List.length_cons]; omega
    · split
      · simp only [List.length_cons]; omega
      · simp only [List.length_cons]; omega
theorem clauseL_len : ∀ (l out : List Int), (clauseL l out).1.length ≤ l.length + out.length
  | [], out => by simp [clauseL]
  | x :: xs, out => by
    have h1 := putS_len out x
    have h2 := clauseL_len xs (putS out x).1
    simp only [clauseL]
    split
    · simp only [List.length_cons]; omega
    · simp
theorem clauseOf_len (l : List Int) : (clauseOf l).1.length ≤ l.length := by
  unfold clauseOf
  split
  · simp
  · simpa using clauseL_len l []

/-- The two ways to look at what is put. -/
theorem right_same {many : Int} (hm : 0 ≤ many ∧ many ≤ 60) : ∀ (l done : List Int), rightI many done l = rightS many done l
  | [], _ => rfl
  | x :: xs, done => by
    simp only [rightI, rightS, right_same hm xs]
    congr 2
    rw [Bool.eq_iff_iff]
    have e1 : isMark x many = false ↔ ¬ (x ≠ 0 ∧ -many ≤ x ∧ x ≤ many) := by
      rw [← isMark_iff hm]; simp
    simp only [Bool.or_eq_true, Bool.not_eq_true', decide_eq_true_eq, List.contains_iff_mem]
    rw [e1]
    have ha : absW x = if x < -60 then 61 else if x > 60 then 61 else if x < 0 then -x else x := absW_eq
    constructor
    · intro h
      rcases h with (h | h) | h
      · by_cases h0 : x = 0
        · exact .inl (.inl h0)
        · refine .inl (.inr ?_)
          rw [ha]; (repeat' split) <;> omega
      · exact .inr fun e => (at_ne e).1 h
      · exact .inr fun e => (at_ne e).2 h
    · intro h
      rcases h with (h | h) | h
      · exact .inl (.inl (by omega))
      · refine .inl (.inl fun e => ?_)
        rw [ha] at h
        revert h; (repeat' split) <;> omega
      · by_cases h1 : x ∈ done
        · exact .inl (.inr h1)
        · by_cases h2 : wneg x ∈ done
          · exact .inr h2
          · exact absurd (at_of_not h1 h2) h
theorem rightS_cons {many : Int} (hm : 0 ≤ many ∧ many ≤ 60) : ∀ {l done : List Int}, Cons done → rightS many done l = true → Cons (done ++ l)
  | [], done, hd, _ => by simpa using hd
  | x :: xs, done, hd, h => by
    simp only [rightS, Bool.and_eq_true, Bool.not_eq_true', Bool.or_eq_false_iff, decide_eq_false_iff_not] at h
    obtain ⟨⟨⟨h1, h2⟩, h3⟩, h4⟩ := h
    have hat : at_ x done = 0 := by omega
    obtain ⟨h5, h6⟩ := at_ne hat
    have h0 : 0 < absW x := by
      have ha : absW x = if x < -60 then 61 else if x > 60 then 61 else if x < 0 then -x else x := absW_eq
      rw [ha]; (repeat' split) <;> omega
    have hmk : Mk x := absW_mk h0 (by omega)
    have := rightS_cons hm (hd.snoc hmk h5 h6) h4
    simpa using this
theorem cons_nil : Cons [] := fun x hx => by cases hx
theorem cnfOk_many {c : Cnf} (h : cnfOk c = true) : 0 ≤ c.1 ∧ c.1 ≤ 60 := by
  simp only [cnfOk, Bool.and_eq_true, decide_eq_true_eq] at h
  exact ⟨h.1.1.1, h.1.1.2⟩
theorem units_put {c : Cnf} {put : List Int} (h : cnfOk c = true) (hr : rightS c.1 [] put = true) : unitsI c.2 put = unitsS c.2 put :=
  units_same (cnfOk_mk h) 61 put (by simpa using rightS_cons (cnfOk_many h) cons_nil hr)

/-! ### What a clause says where some marks are put -/

theorem at_mem {n : Int} : ∀ {put : List Int}, at_ n put = -1 → wneg n ∈ put
  | [], h => by cases h
  | p :: r, h => by
    unfold at_ at h
    split at h
    · cases h
    · split at h
      · rename_i h2; rw [h2]; exact List.mem_cons_self
      · exact List.mem_cons_of_mem _ (at_mem h)
theorem leftL_zero {put : List Int} : ∀ (c : List Int) (n : Nat) (l : Int), (leftL put c n l).1 = 0 → n = 0 ∧ ∀ x ∈ c, at_ x put = -1
  | [], n, l, h => ⟨h, fun x hx => by cases hx⟩
  | x :: xs, n, l, h => by
    simp only [leftL] at h
    split at h
    · cases h
    · rename_i h1
      split at h
      · have := (leftL_zero xs _ _ h).1
        omega
      · rename_i h2
        obtain ⟨h3, h4⟩ := leftL_zero xs _ _ h
        refine ⟨h3, fun y hy => ?_⟩
        cases List.mem_cons.1 hy with
        | inl e => subst e; rcases at_cases (n := y) put with h5 | h5 | h5
                   · exact absurd h5 h1
                   · exact h5
                   · exact absurd h5 h2
        | inr e => exact h4 y e
theorem leftL_falls {put : List Int} : ∀ (c : List Int) (n : Nat) (l : Int), (∀ x ∈ c, at_ x put = -1) → leftL put c n l = (n, l)
  | [], n, l, _ => rfl
  | x :: xs, n, l, h => by
    have h1 := h x List.mem_cons_self
    simp only [leftL]
    rw [if_neg (by omega), if_neg (by omega)]
    exact leftL_falls xs n l fun y hy => h y (List.mem_cons_of_mem _ hy)
theorem leftL_rest {put : List Int} : ∀ (c : List Int) (n : Nat) (l : Int), 0 < n → (leftL put c n l).1 = 1 → (leftL put c n l).2 = l ∧ ∀ x ∈ c, at_ x put = -1
  | [], n, l, _, _ => ⟨rfl, fun x hx => by cases hx⟩
  | x :: xs, n, l, hn, h => by
    simp only [leftL] at h ⊢
    split at h
    · cases h
    · rename_i h1
      rw [if_neg h1]
      split at h
      · rename_i h2
        rcases leftL_one xs (n + 1) _ h with ⟨h3, _⟩ | ⟨h3, _⟩
        · omega
        · omega
      · rename_i h2
        rw [if_neg h2]
        obtain ⟨h3, h4⟩ := leftL_rest xs n l hn h
        refine ⟨h3, fun y hy => ?_⟩
        cases List.mem_cons.1 hy with
        | inl e => subst e; rcases at_cases (n := y) put with h5 | h5 | h5
                   · exact absurd h5 h1
                   · exact h5
                   · exact absurd h5 h2
        | inr e => exact h4 y e
theorem leftL_last {put : List Int} : ∀ (c : List Int) (l : Int), (leftL put c 0 l).1 = 1 → ∀ x ∈ c, at_ x put = -1 ∨ x = (leftL put c 0 l).2
  | [], l, h => by cases h
  | x :: xs, l, h => by
    simp only [leftL] at h ⊢
    split at h
    · cases h
    · rename_i h1
      rw [if_neg h1]
      split at h
      · rename_i h2
        rw [if_pos h2]
        obtain ⟨h3, h4⟩ := leftL_rest xs _ _ (by omega) h
        intro y hy
        cases List.mem_cons.1 hy with
        | inl e => subst e; exact .inr (by rw [h3]; simp)
        | inr e => exact .inl (h4 y e)
      · rename_i h2
        rw [if_neg h2]
        intro y hy
        cases List.mem_cons.1 hy with
        | inl e => subst e; rcases at_cases (n := y) put with h5 | h5 | h5
                   · exact absurd h5 h1
                   · exact .inl h5
                   · exact absurd h5 h2
        | inr e => exact leftL_last xs l h y e
theorem scanS_bad {put : List Int} : ∀ {cs : List (List Int)}, scanS put cs = some none → ∃ c ∈ cs, (left put c).1 = 0
  | [], h => by cases h
  | c :: cs, h => by
    unfold scanS at h
    split at h
    · rename_i h1; exact ⟨c, List.mem_cons_self, h1⟩
    · split at h
      · cases h
      · obtain ⟨d, h2, h3⟩ := scanS_bad h
        exact ⟨d, List.mem_cons_of_mem _ h2, h3⟩
theorem scanS_unit {put : List Int} : ∀ {cs : List (List Int)} {l : Int}, scanS put cs = some (some l) → ∃ c ∈ cs, (left put c).1 = 1 ∧ (left put c).2 = l
  | [], _, h => by cases h
  | c :: cs, l, h => by
    unfold scanS at h
    split at h
    · cases h
    · split at h
      · rename_i h1; cases h; exact ⟨c, List.mem_cons_self, h1, rfl⟩
      · obtain ⟨d, h2, h3⟩ := scanS_unit h
        exact ⟨d, List.mem_cons_of_mem _ h2, h3⟩
theorem scanS_none {put : List Int} : ∀ {cs : List (List Int)}, scanS put cs = none → ∀ c ∈ cs, (left put c).1 ≠ 0 ∧ (left put c).1 ≠ 1
  | [], _, c, hc => by cases hc
  | d :: cs, h, c, hc => by
    unfold scanS at h
    split at h
    · cases h
    · rename_i h1
      split at h
      · cases h
      · rename_i h2
        cases List.mem_cons.1 hc with
        | inl e => subst e; exact ⟨h1, h2⟩
        | inr e => exact scanS_none h c e
theorem lIs_neg {x : Int} {v : List Bool} (h0 : x ≠ 0) (h1 : x ≤ v.length) (h2 : -(v.length : Int) ≤ x) : lIs (-x) v = !lIs x v := by
  have e1 : ¬ (-x = 0 ∨ -x > (v.length : Int) ∨ -x < -(v.length : Int)) := by omega
  have e2 : ¬ (x = 0 ∨ x > (v.length : Int) ∨ x < -(v.length : Int)) := by omega
  unfold lIs
  rw [if_neg e1, if_neg e2]
  by_cases h : x < 0
  · have e3 : ¬ -x < 0 := by omega
    rw [if_neg e3, if_pos h, Bool.not_not]; congr 2; omega
  · have e3 : -x < 0 := by omega
    rw [if_pos e3, if_neg h]; congr 3; omega
theorem Mk.le_abs {x n : Int} (h : Mk x) (h1 : absW x ≤ n) : x ≤ n ∧ -n ≤ x := by
  rw [absW_of h] at h1
  split at h1 <;> omega
theorem Mk.lIs {x : Int} {v : List Bool} (h : Mk x) (h1 : absW x ≤ v.length) : Pl.lIs (Pl.wneg x) v = !Pl.lIs x v := by
  obtain ⟨h2, h3⟩ := h.le_abs h1
  rw [h.wneg]
  exact lIs_neg h.1 h2 h3

/-- Where every clause and every mark that is put is true, so is every mark that follows. -/
theorem units_true {list : List (List Int)} {v : List Bool} (hl : ∀ c ∈ list, clauseIs c v = true ∧ ∀ x ∈ c, Mk x ∧ absW x ≤ v.length) :
    ∀ (k : Nat) (put : List Int), (∀ x ∈ put, lIs x v = true) → (unitsF scanS list k put).2 = false ∧ ∀ x ∈ (unitsF scanS list k put).1, lIs x v = true
  | 0, put, hp => ⟨rfl, hp⟩
  | k + 1, put, hp => by
    have falls : ∀ c ∈ list, ∀ x ∈ c, at_ x put = -1 → lIs x v = false := fun c hc x hx h => by
      obtain ⟨h1, h2⟩ := (hl c hc).2 x hx
      have h3 := hp _ (at_mem h)
      rw [h1.lIs h2] at h3
      simpa using h3
    unfold unitsF
    split
    · exact ⟨rfl, hp⟩
    · rename_i h
      obtain ⟨c, hc, h1⟩ := scanS_bad h
      have h2 := (leftL_zero c 0 0 h1).2
      have h3 := (hl c hc).1
      unfold clauseIs at h3
      obtain ⟨x, hx, h4⟩ := List.any_eq_true.1 h3
      rw [falls c hc x hx (h2 x hx)] at h4
      cases h4
    · rename_i l h
      obtain ⟨c, hc, h1, h2⟩ := scanS_unit h
      have h3 := (hl c hc).1
      unfold clauseIs at h3
      obtain ⟨x, hx, h4⟩ := List.any_eq_true.1 h3
      have h5 : lIs l v = true := by
        rcases leftL_last c 0 h1 x hx with h6 | h6
        · rw [falls c hc x hx h6] at h4; cases h4
        · rw [← h2]; unfold left; rw [← h6]; exact h4
      exact units_true hl k _ fun y hy => by
        rcases List.mem_append.1 hy with h6 | h6
        · exact hp y h6
        · simp only [List.mem_singleton] at h6; rw [h6]; exact h5
theorem cnfOk_cl {c : Cnf} (h : cnfOk c = true) : ∀ cl ∈ c.2, ∀ x ∈ cl, Mk x ∧ absW x ≤ c.1 := fun cl hc x hx => by
  have h2 := h
  simp only [cnfOk, Bool.and_eq_true] at h2
  have h3 := (specLoop_mk (Int.le_refl 0) (List.all_eq_true.1 h2.2 cl hc)).2 x hx
  exact ⟨h3.1, h3.2.2⟩
theorem cnfIs_cl {c : Cnf} {v : List Bool} (h : cnfIs c v = true) : ∀ cl ∈ c.2, clauseIs cl v = true ∧ ∀ x ∈ cl, Mk x ∧ absW x ≤ v.length := fun cl hc => by
  simp only [cnfIs, Bool.and_eq_true, decide_eq_true_eq] at h
  refine ⟨List.all_eq_true.1 h.2 cl hc, fun x hx => ?_⟩
  rw [h.1.2]
  exact cnfOk_cl h.1.1 cl hc x hx
/-- What follows by propagation is true where the clauses are. -/
theorem rup_true {c : Cnf} {cl : List Int} {v : List Bool} (h : rup c cl = true) (hv : cnfIs c v = true) : clauseIs cl v = true := by
  cases hc : clauseIs cl v
  · exfalso
    simp only [rup, Bool.and_eq_true] at h
    obtain ⟨⟨h1, h2⟩, h3⟩ := h
    have hlen : (v.length : Int) = c.1 := by
      simp only [cnfIs, Bool.and_eq_true, decide_eq_true_eq] at hv; exact hv.1.2
    have h4 := (units_true (cnfIs_cl hv) 61 (nots cl) fun x hx => by
      obtain ⟨y, hy, rfl⟩ := List.mem_map.1 hx
      have h5 := (specLoop_mk (Int.le_refl 0) h2).2 y hy
      rw [h5.1.lIs (by rw [hlen]; exact h5.2.2)]
      unfold clauseIs at hc
      rw [List.any_eq_false] at hc
      simpa using hc y hy).1
    unfold unitsS at h3
    rw [h3] at h4
    cases h4
  · rfl

/-! ### Propagation ends where nothing more follows -/

theorem rightS_snoc {many : Int} : ∀ (l done : List Int) (x : Int), rightS many done (l ++ [x]) = (rightS many done l && !(decide (x = 0) || decide (absW x > many) || decide (at_ x (done ++ l) ≠ 0)))
  | [], done, x => by simp [rightS]
  | y :: ys, done, x => by
    simp only [List.cons_append, rightS, rightS_snoc ys]
    rw [Bool.and_assoc, List.append_assoc]
    rfl
theorem units_fix {c : Cnf} (hc : cnfOk c = true) : ∀ (k : Nat) (put : List Int), uncov put < k → rightS c.1 [] put = true → (unitsF scanS c.2 k put).2 = false →
    scanS (unitsF scanS c.2 k put).1 c.2 = none ∧ rightS c.1 [] (unitsF scanS c.2 k put).1 = true
  | 0, put, h, _, _ => by omega
  | k + 1, put, hu, hr, hb => by
    unfold unitsF at hb ⊢
    split
    · rename_i h; exact ⟨h, hr⟩
    · rename_i h; rw [h] at hb; cases hb
    · rename_i l h
      rw [h] at hb
      simp only at hb
      obtain ⟨cl, h1, h2, h3⟩ := scanS_some h
      obtain ⟨h4, h5⟩ := at_ne h3
      obtain ⟨h6, h7⟩ := cnfOk_cl hc cl h1 l h2
      have h8 := cov_snoc h6 h4 h5
      refine units_fix hc k _ (by omega) ?_ hb
      rw [rightS_snoc, hr]
      simp only [List.nil_append, Bool.true_and, Bool.not_eq_true', Bool.or_eq_false_iff, decide_eq_false_iff_not]
      exact ⟨⟨h6.1, by omega⟩, by omega⟩
theorem units_twice {c : Cnf} {put : List Int} (h : cnfOk c = true) (hl : put.length ≤ (cnfUnits c put).1.length) (hb : (cnfUnits c put).2 = false) : cnfUnits c (cnfUnits c put).1 = ((cnfUnits c put).1, false) := by
  have hr : rightS c.1 [] put = true := by
    cases hr : rightS c.1 [] put
    · have e : cnfUnits c put = ([], false) := by simp [cnfUnits, hr]
      rw [e] at hl
      have : put = [] := List.eq_nil_of_length_eq_zero (Nat.le_zero.1 hl)
      subst this
      cases hr
    · rfl
  have e : cnfUnits c put = unitsS c.2 put := by simp [cnfUnits, h, hr]
  rw [e] at hb ⊢
  obtain ⟨h1, h2⟩ := units_fix h 61 put (uncov_le put) hr hb
  have e2 : cnfUnits c (unitsS c.2 put).1 = unitsS c.2 (unitsS c.2 put).1 := by
    unfold cnfUnits
    rw [h, show rightS c.1 [] (unitsS c.2 put).1 = true from h2]
    rfl
  rw [e2]
  show unitsF scanS c.2 61 (unitsF scanS c.2 61 put).1 = _
  conv => lhs; unfold unitsF
  rw [h1]
  rfl
theorem units_bad {list : List (List Int)} {cl : List Int} (hc : cl ∈ list) (hl : ∀ c ∈ list, ∀ x ∈ c, Mk x) : ∀ (k : Nat) (put : List Int), uncov put < k → Cons put → (∀ x ∈ cl, wneg x ∈ put) → (unitsF scanS list k put).2 = true
  | 0, put, h, _, _ => by omega
  | k + 1, put, hu, hp, hx => by
    unfold unitsF
    split
    · rename_i h
      refine absurd ?_ (scanS_none h cl hc).1
      have : ∀ x ∈ cl, at_ x put = -1 := fun x h1 => by
        have h2 := hx x h1
        refine at_neg (fun h3 => ?_) h2
        rw [(hl cl hc x h1).wneg] at h2
        exact (hp x h3).2.2.2 h2
      unfold left
      rw [leftL_falls cl 0 0 this]
    · rfl
    · rename_i l h
      obtain ⟨d, h1, h2, h3⟩ := scanS_some h
      obtain ⟨h4, h5⟩ := at_ne h3
      have h6 := hl d h1 l h2
      have h8 := cov_snoc h6 h4 h5
      exact units_bad hc hl k _ (by omega) (hp.snoc h6 h4 h5) fun x h7 => List.mem_append_left _ (hx x h7)
theorem rup_self {c : Cnf} {cl : List Int} (h : cnfOk c = true) (hc : cl ∈ c.2) : rup c cl = true := by
  have h2 := h
  simp only [cnfOk, Bool.and_eq_true] at h2
  have h3 := List.all_eq_true.1 h2.2 cl hc
  simp only [rup, h, h3, Bool.true_and]
  exact units_bad hc (cnfOk_mk h) 61 _ (uncov_le _) (nots_cons (Int.le_refl 0) h3).1 fun x hx => List.mem_map.2 ⟨x, hx, rfl⟩
theorem unitsF_len (scan : List Int → List (List Int) → Option (Option Int)) (list : List (List Int)) : ∀ (k : Nat) (put : List Int), (unitsF scan list k put).1.length ≤ put.length + k
  | 0, put => Nat.le_refl _
  | k + 1, put => by
    unfold unitsF
    split
    · simp only; omega
    · simp only; omega
    · have := unitsF_len scan list k (put ++ [‹Int›])
      simp only [List.length_append, List.length_singleton] at this
      omega
theorem cnfUnits_len (c : Cnf) (put : List Int) : (cnfUnits c put).1.length ≤ put.length + 61 := by
  unfold cnfUnits
  split
  · exact unitsF_len _ _ _ _
  · simp
theorem cnfIs_take {a : Int} {b : List (List Int)} {v : List Bool} (n : Nat) (h : cnfIs (a, b) v = true) : cnfIs (a, b.take n) v = true := by
  simp only [cnfIs, cnfOk, Bool.and_eq_true, decide_eq_true_eq, List.all_eq_true] at h ⊢
  obtain ⟨⟨⟨⟨h1, h2⟩, h3⟩, h4⟩, h5⟩ := h
  exact ⟨⟨⟨⟨h1, by simp; omega⟩, fun x hx => h3 x (List.mem_of_mem_take hx)⟩, h4⟩, fun x hx => h5 x (List.mem_of_mem_take hx)⟩
end Pl
