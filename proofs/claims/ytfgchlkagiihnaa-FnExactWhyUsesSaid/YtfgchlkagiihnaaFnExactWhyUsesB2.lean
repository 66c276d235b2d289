/-
  What the law leans on, part 2. No condition.
-/
import Derived.Sort.Grow
import Derived.Shelf.Sort.Plain
import Derived.Shelf.Slices.CompactI
import Derived.Test.YtfgchlkagiihnaaProg
import Derived.Shelf.Slices.In.SortNone
import Derived.Test.YtfgchlkagiihnaaTool
import Derived.Test.YtfgchlkagiihnaaLaw
import Derived.Test.YtfgchlkagiihnaaFnExactWhyUsesB1
/-
  Plain facts: numbers that are laid into a sorted list one by one, and numbers that are sorted and laid together, are the same list. No condition.
-/
set_option linter.unusedVariables false
set_option linter.unusedSimpArgs false
namespace Pl
open Go
theorem usesW_eq (t : Wy) : usesW t = ownN t.val ++ usesWs t.kids := by
  cases t with
  | mk v ks => simp only [usesW, Tree.val_mk, Tree.kids_mk]; rfl
theorem usesP_eq (x : WP) : usesP x = ownN x.1 ++ usesWs x.2 := usesW_eq (.mk x.1 x.2)
theorem usesP_eta (t : Wy) : usesP (t.val, t.kids) = usesW t := by
  unfold usesP
  rw [Tree.eta]
theorem usesWs_take {l : List Wy} {x : Nat} (h : x < l.length) : usesWs (l.take (x + 1)) = usesWs (l.take x) ++ usesW (l.getD x dW) := by
  induction l generalizing x with
  | nil => simp at h
  | cons r l ih =>
    cases x with
    | zero => simp [usesWs]
    | succ x =>
      have := ih (x := x) (by simpa using h)
      simp only [List.take_succ_cons, usesWs, List.getD_cons_succ, this, List.append_assoc]
theorem usesWs_split (l : List Wy) (x : Nat) : usesWs (l.take x) ++ usesWs (l.drop x) = usesWs l := by
  induction l generalizing x with
  | nil => simp [usesWs]
  | cons r l ih =>
    cases x with
    | zero => simp [usesWs]
    | succ x => simp only [List.take_succ_cons, List.drop_succ_cons, usesWs, List.append_assoc, ih x]
theorem manyW_le {l : List Wy} (x : Nat) : manyL (l.take x) ≤ manyL l := by
  induction l generalizing x with
  | nil => simp
  | cons r l ih =>
    cases x with
    | zero => simp [manyL]
    | succ x => have := ih x; simp only [List.take_succ_cons, manyL]; omega
theorem ownN_len (v : PW) : (ownN v).length ≤ 1 := by unfold ownN; split <;> simp
mutual
theorem usesW_len : ∀ t : Wy, (usesW t).length ≤ t.many
  | .mk v ks => by
    have := usesWs_len ks
    have : (usesW (.mk v ks)).length = (ownN v).length + (usesWs ks).length := by rw [usesW_eq]; simp
    have := ownN_len v
    simp only [Tree.many]; omega
theorem usesWs_len : ∀ l : List Wy, (usesWs l).length ≤ manyL l
  | [] => by simp [usesWs]
  | t :: r => by
    have := usesW_len t
    have := usesWs_len r
    simp only [usesWs, manyL, List.length_append]; omega
end
theorem many_costW : ∀ (n : Nat) (t : Wy), t.many ≤ n → t.many ≤ 1 + costTr costPW t := by
  intro n
  induction n with
  | zero => intro t h; have := t.many_pos; omega
  | succ n ih =>
    intro t h
    rw [t.many_eq] at h ⊢
    rw [costTr_eq]
    have key : ∀ l : List Wy, manyL l ≤ n → manyL l ≤ l.length + costTrs costPW l := by
      intro l
      induction l with
      | nil => intro _; exact Nat.le_refl _
      | cons u r ih' =>
        intro hl
        simp only [manyL, costTrs, List.length_cons] at hl ⊢
        have := ih u (by omega)
        have := ih' (by omega)
        omega
    have := key t.kids (by omega)
    omega
theorem manyP_le {x : WP} (h : costTr costPW (.mk x.1 x.2) ≤ 1048576) : manyL x.2 ≤ 1048576 := by
  have := many_costW _ (.mk x.1 x.2) (Nat.le_refl _)
  rw [Tree.many_eq] at this
  simp only [Tree.kids_mk] at this
  omega
theorem usesP_len {x : WP} (h : costTr costPW (.mk x.1 x.2) ≤ 1048576) : (usesP x).length ≤ 1048577 := by
  have := manyP_le h
  have := usesWs_len x.2
  have := ownN_len x.1
  rw [usesP_eq, List.length_append]; omega

/-! ### A number's place -/

theorem insAt_cons (a : Int) (l : List Int) (n : Int) : insAt (a :: l) n = if a < n then insAt l n + 1 else 0 := by
  unfold insAt
  rw [List.takeWhile_cons]
  by_cases h : a < n
  · rw [if_pos h, if_pos (decide_eq_true h)]; rfl
  · rw [if_neg h, if_neg (by rw [decide_eq_false h]; simp)]; rfl
theorem insAt_le (l : List Int) (n : Int) : insAt l n ≤ l.length := by
  induction l with
  | nil => exact Nat.le_refl _
  | cons a l ih =>
    rw [insAt_cons]
    split
    · simp; exact ih
    · simp
theorem insAt_lt {l : List Int} {n : Int} {x : Nat} (h : x < insAt l n) : l.getD x 0 < n := by
  induction l generalizing x with
  | nil => exact absurd h (Nat.not_lt_zero _)
  | cons a l ih =>
    rw [insAt_cons] at h
    split at h
    · cases x with
      | zero => simpa
      | succ x => rw [List.getD_cons_succ]; exact ih (by omega)
    · omega
theorem insAt_ge {l : List Int} {n : Int} (h : insAt l n < l.length) : n ≤ l.getD (insAt l n) 0 := by
  induction l with
  | nil => exact absurd h (Nat.not_lt_zero _)
  | cons a l ih =>
    rw [insAt_cons] at h ⊢
    split
    · rename_i ha
      rw [if_pos ha] at h
      rw [List.getD_cons_succ]
      exact ih (by simpa using h)
    · rename_i ha
      simp; omega
theorem insAt_step {l : List Int} {n : Int} {x : Nat} (h : x ≤ insAt l n) (hl : x < l.length) (hx : l.getD x 0 < n) : x + 1 ≤ insAt l n := by
  rcases Nat.lt_or_ge x (insAt l n) with h1 | h1
  · exact h1
  · have e : x = insAt l n := by omega
    subst e
    have := insAt_ge hl
    omega
theorem insAt_stop {l : List Int} {n : Int} {x : Nat} (h : x ≤ insAt l n) (hx : n ≤ l.getD x 0 ∨ l.length ≤ x) : insAt l n = x := by
  rcases Nat.lt_or_ge x (insAt l n) with h1 | h1
  · have h2 := insAt_lt h1
    have h3 := insAt_le l n
    rcases hx with hx | hx <;> omega
  · omega

/-! ### Lists that go up -/

theorem insN_nil (n : Int) : insN [] n = [n] := rfl
theorem insN_cons (a : Int) (l : List Int) (n : Int) : insN (a :: l) n = if a < n then a :: insN l n else if a = n then a :: l else n :: a :: l := by
  unfold insN
  rw [insAt_cons]
  by_cases h : a < n
  · simp only [if_pos h, List.length_cons, List.getD_cons_succ, List.take_succ_cons, List.drop_succ_cons, Nat.add_lt_add_iff_right]
    by_cases h2 : insAt l n < l.length ∧ l.getD (insAt l n) 0 = n
    · rw [if_pos h2, if_pos h2]
    · rw [if_neg h2, if_neg h2]; rfl
  · simp only [if_neg h]
    by_cases h2 : a = n
    · rw [if_pos h2, if_pos ⟨by simp, by simpa using h2⟩]
    · rw [if_neg h2, if_neg (fun q => h2 (by simpa using q.2))]; rfl
theorem insN_mem {l : List Int} {n m : Int} : m ∈ insN l n ↔ m = n ∨ m ∈ l := by
  induction l with
  | nil => rw [insN_nil]; simp
  | cons a l ih =>
    rw [insN_cons]
    split
    · simp only [List.mem_cons, ih]; exact ⟨fun h => by rcases h with h | h | h <;> simp [h], fun h => by rcases h with h | h | h <;> simp [h]⟩
    · split
      · rename_i h1 h2
        simp only [List.mem_cons]
        exact ⟨fun h => .inr h, fun h => by rcases h with h | h; exact .inl (h.trans h2.symm); exact h⟩
      · simp only [List.mem_cons]
theorem insN_up {l : List Int} {n : Int} (h : l.Pairwise (· < ·)) : (insN l n).Pairwise (· < ·) := by
  induction l with
  | nil => rw [insN_nil]; simp
  | cons a l ih =>
    rw [List.pairwise_cons] at h
    rw [insN_cons]
    split
    · rename_i h1
      rw [List.pairwise_cons]
      refine ⟨fun x hx => ?_, ih h.2⟩
      rcases insN_mem.1 hx with rfl | hx
      · exact h1
      · exact h.1 x hx
    · split
      · rw [List.pairwise_cons]; exact h
      · rename_i h1 h2
        rw [List.pairwise_cons]
        refine ⟨fun x hx => ?_, by rw [List.pairwise_cons]; exact h⟩
        rcases List.mem_cons.1 hx with rfl | hx
        · omega
        · have := h.1 x hx; omega
theorem insN_len (l : List Int) (n : Int) : (insN l n).length ≤ l.length + 1 := by
  unfold insN
  have := insAt_le l n
  split
  · omega
  · simp only [List.length_append, List.length_take, List.length_drop, List.length_singleton]; omega
theorem insAll_app (l a b : List Int) : insAll l (a ++ b) = insAll (insAll l a) b := by unfold insAll; rw [List.foldl_append]
theorem insAll_len (l m : List Int) : (insAll l m).length ≤ l.length + m.length := by
  induction m generalizing l with
  | nil => exact Nat.le_refl _
  | cons a m ih =>
    have h1 := ih (insN l a)
    have h2 := insN_len l a
    show (insAll (insN l a) m).length ≤ _
    simp only [List.length_cons]; omega
theorem insAll_up {l m : List Int} (h : l.Pairwise (· < ·)) : (insAll l m).Pairwise (· < ·) := by
  induction m generalizing l with
  | nil => exact h
  | cons a m ih => exact ih (insN_up h)
theorem insAll_mem {l m : List Int} {x : Int} : x ∈ insAll l m ↔ x ∈ l ∨ x ∈ m := by
  induction m generalizing l with
  | nil => simp [insAll]
  | cons a m ih =>
    show x ∈ insAll (insN l a) m ↔ _
    rw [ih, insN_mem, List.mem_cons]
    exact ⟨fun h => by rcases h with (h | h) | h <;> simp [h], fun h => by rcases h with h | h | h <;> simp [h]⟩
theorem up_unique {l m : List Int} (hl : l.Pairwise (· < ·)) (hm : m.Pairwise (· < ·)) (h : ∀ x, x ∈ l ↔ x ∈ m) : l = m := by
  induction l generalizing m with
  | nil =>
    cases m with
    | nil => rfl
    | cons b m => exact absurd ((h b).2 List.mem_cons_self) (by simp)
  | cons a l ih =>
    cases m with
    | nil => exact absurd ((h a).1 List.mem_cons_self) (by simp)
    | cons b m =>
      rw [List.pairwise_cons] at hl hm
      have hab : a = b := by
        rcases List.mem_cons.1 ((h a).1 List.mem_cons_self) with e | e
        · exact e
        · rcases List.mem_cons.1 ((h b).2 List.mem_cons_self) with e' | e'
          · exact e'.symm
          · have := hm.1 a e; have := hl.1 b e'; omega
      subst hab
      rw [ih hl.2 hm.2 fun x => ⟨fun hx => ?_, fun hx => ?_⟩]
      · rcases List.mem_cons.1 ((h x).1 (List.mem_cons_of_mem _ hx)) with e | e
        · have := hl.1 x hx; omega
        · exact e
      · rcases List.mem_cons.1 ((h x).2 (List.mem_cons_of_mem _ hx)) with e | e
        · have := hm.1 x hx; omega
        · exact e
theorem sortI_up (l : List Int) : (sortI l).Pairwise (· ≤ ·) := by
  have := List.pairwise_mergeSort (le := fun x y : Int => decide (x ≤ y)) (fun a b c h1 h2 => by simp only [decide_eq_true_eq] at *; omega) (fun a b => by simp only [Bool.or_eq_true, decide_eq_true_eq]; omega) l
  exact this.imp fun h => by simpa using h
theorem sortI_mem {l : List Int} {x : Int} : x ∈ sortI l ↔ x ∈ l := List.mem_mergeSort
theorem sortI_len (l : List Int) : (sortI l).length = l.length := List.length_mergeSort l
theorem le_get {l : List Int} (h : l.Pairwise (· ≤ ·)) {i j : Nat} (hij : i ≤ j) (hj : j < l.length) : l.getD i 0 ≤ l.getD j 0 := by
  rcases Nat.lt_or_ge i j with h1 | h1
  · have := List.pairwise_iff_getElem.1 h i j (by omega) hj h1
    simpa [List.getD_eq_getElem?_getD, hj, show i < l.length by omega] using this
  · have : i = j := by omega
    subst this; exact Int.le_refl _
theorem compact_up {l : List Int} (h : l.Pairwise (· ≤ ·)) : (compactL l).Pairwise (· < ·) := by
  unfold compactL compactN
  rw [List.pairwise_map]
  refine List.Pairwise.imp_of_mem (R := (· < ·)) (fun {i j} hi hj hij => ?_) (List.pairwise_lt_range.filter _)
  obtain ⟨h1, h2⟩ := List.mem_filter.1 hj
  have h1 := List.mem_range.1 h1
  unfold keepsL at h2
  have h2 := of_decide_eq_true h2
  have h3 := le_get h (i := i) (j := j - 1) (by omega) (by omega)
  have h4 := le_get h (i := j - 1) (j := j) (by omega) h1
  rcases h2 with h2 | h2 <;> omega
theorem compact_mem {l : List Int} {x : Int} : x ∈ compactL l ↔ x ∈ l := by
  unfold compactL compactN
  rw [List.mem_map]
  constructor
  · rintro ⟨j, hj, rfl⟩
    have := List.mem_range.1 (List.mem_filter.1 hj).1
    rw [List.getD_eq_getElem?_getD, List.getElem?_eq_getElem this]
    exact List.getElem_mem _
  · intro hx
    obtain ⟨j, hj, e⟩ := List.getElem_of_mem hx
    have key : ∀ j, j < l.length → l.getD j 0 = x → ∃ k, k < l.length ∧ l.getD k 0 = x ∧ (k = 0 ∨ l.getD k 0 ≠ l.getD (k - 1) 0) := by
      intro j
      induction j with
      | zero => exact fun h1 h2 => ⟨0, h1, h2, .inl rfl⟩
      | succ j ih =>
        intro h1 h2
        by_cases h3 : l.getD j 0 = x
        · exact ih (by omega) h3
        · exact ⟨j + 1, h1, h2, .inr (by rw [h2, Nat.add_sub_cancel]; exact Ne.symm h3)⟩
    obtain ⟨k, k1, k2, k3⟩ := key j hj (by rw [List.getD_eq_getElem?_getD, List.getElem?_eq_getElem hj]; exact e)
    exact ⟨k, List.mem_filter.2 ⟨List.mem_range.2 k1, by unfold keepsL; exact decide_eq_true k3⟩, k2⟩
theorem compact_len (l : List Int) : (compactL l).length ≤ l.length := by
  unfold compactL compactN
  rw [List.length_map]
  exact Nat.le_trans (List.length_filter_le _ _) (by rw [List.length_range]; exact Nat.le_refl _)
theorem wu_same (x : WP) : wuI x = wuS x :=
  up_unique (compact_up (sortI_up _)) (insAll_up (by simp)) fun n => by
    unfold wuI wuS
    rw [compact_mem, sortI_mem, insAll_mem]
    simp
end Pl

/-
  A row that the library has turned, as the abstract machine sees it. No condition.
-/
set_option linter.unusedVariables false
set_option linter.unusedSimpArgs false
namespace Cg
open Go
section
variable {S : Nat → Prop} {μ : Nat → OI} {w : World}
theorem live_one {x : AObj} {o : Nat} (h : LiveAt [x] o) : o = 0 := by
  cases o with
  | zero => rfl
  | succ o => simp [LiveAt] at h
theorem heap_turned (b base n : Nat) (d : Array Int) (os : Array Obj) (c : Nat) (hc : c < w.heap.size) :
    (Go.Sort.grow (Go.Sort.putRow (Value.int .i64) (Go.Sort.ahead w n) b base d) os).heap[c]? = if b = c then (w.heap[c]?).map (Go.Sort.onCells (Go.Sort.putCells (Value.int .i64) base d)) else w.heap[c]? := by
  show ((w.heap.modify b (Go.Sort.onCells (Go.Sort.putCells (Value.int .i64) base d))) ++ os)[c]? = _
  rw [Array.getElem?_append_left (by simpa using hc), Array.getElem?_modify]
theorem own_arI {d : List Int} {b : Nat} (h : Own μ [arI d] 0 b) : (μ 0).b = some b := by
  obtain ⟨x, h1, h2⟩ := h
  cases h1; exact h2
theorem row_turned {l d : List Int} {b : Nat} (hok : HOK S μ w [arI l]) (hb : (μ 0).b = some b) (hd : d.length = l.length) (n : Nat) (os : Array Obj) :
    Evo S μ [arI l] w S μ [arI d] (Go.Sort.grow (Go.Sort.putRow (Value.int .i64) (Go.Sort.ahead w n) b (μ 0).base d.toArray) os) := by
  obtain ⟨he, ho⟩ := hok.obj 0 _ rfl
  rw [hb] at ho
  obtain ⟨hn, c, T, hh, hsz, hcells⟩ := ho
  have hlt : b < w.heap.size := (hok.own 0 b (by simp [LiveAt, arI]) hb).2
  have hsize : w.heap.size ≤ (Go.Sort.grow (Go.Sort.putRow (Value.int .i64) (Go.Sort.ahead w n) b (μ 0).base d.toArray) os).heap.size := by
    show _ ≤ ((w.heap.modify b (Go.Sort.onCells (Go.Sort.putCells (Value.int .i64) (μ 0).base d.toArray))) ++ os).size
    simp
  refine ⟨fun _ h => h, fun _ h => .inl h, fun _ _ => rfl, Nat.le_refl _, ⟨rfl, rfl, rfl, hsize, fun k hk hnb => ?_⟩, fun o k hk => ?_, ?_⟩
  · rw [heap_turned _ _ _ _ _ _ hk, if_neg]
    intro e
    exact hnb ⟨0, _, rfl, by show (μ 0).b = some k; rw [hb, e]⟩
  · have := live_one hk.live
    subst this
    exact .inr ⟨0, _, rfl, own_arI hk⟩
  · refine ⟨fun o x ho => ?_, fun o cs ho => ?_, fun o o' k hne h1 h2 => ?_, fun o k hk => ?_, fun k hk => Nat.lt_of_lt_of_le (hok.inS k hk) hsize, hok.gl.mono (fun _ h => h) fun k hk => by
      rw [heap_turned _ _ _ _ _ _ (hok.inS k hk), if_neg]
      intro e
      subst e
      exact (hok.own 0 _ (by simp [LiveAt, arI]) hb).1 hk⟩
    · cases o with
      | succ o => simp at ho
      | zero =>
        simp only [List.getElem?_cons_zero, Option.some.injEq] at ho
        subst ho
        refine ⟨he, ?_⟩
        rw [hb]
        refine ⟨by show d.length ≤ _; rw [hd]; exact hn, Go.Sort.putCells (Value.int .i64) (μ 0).base d.toArray c, T, ?_, ?_, fun i hi j hj => ?_⟩
        · rw [heap_turned _ _ _ _ _ _ hlt, if_pos rfl, hh]; rfl
        · show _ ≤ (Array.mapIdx _ c).size
          rw [Array.size_mapIdx]; exact hsz
        · have hj0 : j = 0 := by omega
          subst hj0
          obtain ⟨x, h1, _⟩ := hcells i (by rw [← hd]; exact hi) 0 (by decide)
          have hi' : i < d.length := hi
          have hk : (μ 0).base + i * 1 + 0 < c.size := (Array.getElem?_eq_some_iff.1 h1).1
          refine ⟨.int .i64 (d.getD i 0), ?_, ?_⟩
          · show (Array.mapIdx _ c)[(μ 0).base + i * 1 + 0]? = _
            rw [Array.getElem?_mapIdx, h1]
            simp only [Option.map_some, Nat.mul_one, Nat.add_zero]
            rw [if_pos (by simp; omega)]
            simp [hi']
          · show RelI S _ (.v (.int .i64 (d.getD i 0))) _
            rw [RelI]; exact ⟨rfl, rfl⟩
    · cases o with
      | succ o => simp at ho
      | zero => simp [arI] at ho
    · exact absurd ((live_one h1.live).trans (live_one h2.live).symm) hne
    · have := live_one hk.live
      subst this
      have h3 := hok.own 0 k (by simp [LiveAt, arI]) (own_arI hk)
      exact ⟨h3.1, Nat.lt_of_lt_of_le h3.2 hsize⟩
theorem row_holds {l : List Int} {b : Nat} (hok : HOK S μ w [arI l]) (hb : (μ 0).b = some b) : Go.Sort.Holds (Value.int .i64) w b (μ 0).base l.toArray := fun j hj => by
  obtain ⟨he, ho⟩ := hok.obj 0 _ rfl
  rw [hb] at ho
  obtain ⟨hn, c, T, hh, hsz, hcells⟩ := ho
  have hj' : j < l.length := by simpa using hj
  obtain ⟨x, h1, h2⟩ := hcells j hj' 0 (by decide)
  have h2' : RelI S w (.v (.int .i64 (l.getD j 0))) x := h2
  rw [RelI] at h2'
  rw [h2'.1] at h1
  simp only [Nat.mul_one, Nat.add_zero] at h1
  constructor
  · simp only [World.cell?, hh, h1]
    simp [hj']
  · simp [World.frozen?, hh]
theorem Evo.same {H : List AObj} (hok : HOK S μ w H) : Evo S μ H w S μ H w :=
  ⟨fun _ h => h, fun _ h => .inl h, fun _ _ => rfl, Nat.le_refl _, Kept.refl _ _ _, fun o b hb => .inr ⟨o, hb⟩, hok⟩
end

end Cg

/-
  The library functions' contracts at this program, laid by the kit's own programs (lay-shelf, lay-plain). No condition.
-/
namespace Go.Proofs
open Go.Shelf
def Try.lays189_ren : Go.Shelf.Ren := ⟨fun | 189 => 19 | 125 => 29 | 257 => 28 | 128 => 42 | 129 => 43 | 294 => 33 | 295 => 34 | 296 => 35 | 297 => 36 | 298 => 37 | 299 => 38 | 216 => 39 | 300 => 40 | 301 => 41 | 328 => 44 | 329 => 45 | 330 => 46 | 331 => 47 | 332 => 48 | 215 => 49 | 343 => 50 | n => n, fun | 28 => 29 | 3 => 3 | 46 => 60 | 0 => 0 | 51 => 74 | 53 => 76 | 4 => 4 | 183 => 66 | 182 => 65 | 131 => 71 | 5 => 5 | 9 => 9 | 218 => 78 | 222 => 82 | 228 => 85 | 229 => 86 | n => n, fun | n => n⟩
theorem Try.lays189 : Go.Proofs.Lays.n189 Try.prog Try.lays189_ren := {
  mixed := by kernel_rfl
  f125 := Try.func29.trans (congrArg some (by kernel_rfl))
  f128 := Try.func42.trans (congrArg some (by kernel_rfl))
  f129 := Try.func43.trans (congrArg some (by kernel_rfl))
  f189 := Try.func19.trans (congrArg some (by kernel_rfl))
  f215 := Try.func49.trans (congrArg some (by kernel_rfl))
  f216 := Try.func39.trans (congrArg some (by kernel_rfl))
  f257 := Try.func28.trans (congrArg some (by kernel_rfl))
  f294 := Try.func33.trans (congrArg some (by kernel_rfl))
  f295 := Try.func34.trans (congrArg some (by kernel_rfl))
  f296 := Try.func35.trans (congrArg some (by kernel_rfl))
  f297 := Try.func36.trans (congrArg some (by kernel_rfl))
  f298 := Try.func37.trans (congrArg some (by kernel_rfl))
  f299 := Try.func38.trans (congrArg some (by kernel_rfl))
  f300 := Try.func40.trans (congrArg some (by kernel_rfl))
  f301 := Try.func41.trans (congrArg some (by kernel_rfl))
  f328 := Try.func44.trans (congrArg some (by kernel_rfl))
  f329 := Try.func45.trans (congrArg some (by kernel_rfl))
  f330 := Try.func46.trans (congrArg some (by kernel_rfl))
  f331 := Try.func47.trans (congrArg some (by kernel_rfl))
  f332 := Try.func48.trans (congrArg some (by kernel_rfl))
  f343 := Try.func50.trans (congrArg some (by kernel_rfl))
  t0 := Try.underlying0
  a0 := Try.isAgg0
  z0 := Try.sizeOf0
  v0 := Try.zeroValue0
  t3 := Try.underlying3
  a3 := Try.isAgg3
  z3 := Try.sizeOf3
  v3 := Try.zeroValue3
  t4 := Try.underlying4
  a4 := Try.isAgg4
  z4 := Try.sizeOf4
  v4 := Try.zeroValue4
  t5 := Try.underlying5
  a5 := Try.isAgg5
  z5 := Try.sizeOf5
  v5 := Try.zeroValue5
  t9 := Try.underlying9
  a9 := Try.isAgg9
  z9 := Try.sizeOf9
  v9 := Try.zeroValue9
  t28 := Try.underlying29
  a28 := Try.isAgg29
  z28 := Try.sizeOf29
  v28 := Try.zeroValue29
  t46 := Try.underlying60
  a46 := Try.isAgg60
  z46 := Try.sizeOf60
  v46 := Try.zeroValue60
  t51 := Try.underlying74
  a51 := Try.isAgg74
  z51 := Try.sizeOf74
  v51 := Try.zeroValue74
  t53 := Try.underlying76
  a53 := Try.isAgg76
  z53 := Try.sizeOf76
  v53 := Try.zeroValue76
  t131 := Try.underlying71
  a131 := Try.isAgg71
  z131 := Try.sizeOf71
  v131 := Try.zeroValue71
  t182 := Try.underlying65
  a182 := Try.isAgg65
  z182 := Try.sizeOf65
  v182 := Try.zeroValue65
  t183 := Try.underlying66
  a183 := Try.isAgg66
  z183 := Try.sizeOf66
  v183 := Try.zeroValue66
  t218 := Try.underlying78
  a218 := Try.isAgg78
  z218 := Try.sizeOf78
  v218 := Try.zeroValue78
  t222 := Try.underlying82
  a222 := Try.isAgg82
  z222 := Try.sizeOf82
  v222 := Try.zeroValue82
  t228 := Try.underlying85
  a228 := Try.isAgg85
  z228 := Try.sizeOf85
  v228 := Try.zeroValue85
  t229 := Try.underlying86
  a229 := Try.isAgg86
  z229 := Try.sizeOf86
  v229 := Try.zeroValue86 }
open Go.Sort Go.RowKit in
theorem Try.slices_Sort_int (blk off cap : Nat) (zs : List Int) (w : World) (hH : Holds (Value.int .i64) w blk off zs.toArray) (hblk : blk < w.heap.size) (hsz : zs.length < 4611686018427387904) :
    Calls Try.prog 19 #[.slice (some ⟨blk, off, none⟩) zs.length cap] w fun e w' =>
      e = .returned (.tuple #[]) ∧ ∃ n os, w' = grow (putRow (Value.int .i64) (Sort.ahead w n) blk off (zs.mergeSort fun x y => decide (x ≤ y)).toArray) os := Any.slices_Sort_int Try.lays189 blk off cap zs w hH hblk hsz
def Try.laysNm220_ren : Go.Shelf.Ren := ⟨fun | 20 => 20 | n => n, fun | 22 => 29 | 3 => 3 | 4 => 4 | 0 => 0 | n => n, fun | n => n⟩
theorem Try.laysNm220 : Go.Proofs.Lays2.n20 Try.prog Try.laysNm220_ren := {
  mixed := by kernel_rfl
  f20 := Try.func20.trans (congrArg some (by kernel_rfl))
  t0 := Try.underlying0
  a0 := Try.isAgg0
  z0 := Try.sizeOf0
  v0 := Try.zeroValue0
  t3 := Try.underlying3
  a3 := Try.isAgg3
  z3 := Try.sizeOf3
  v3 := Try.zeroValue3
  t4 := Try.underlying4
  a4 := Try.isAgg4
  z4 := Try.sizeOf4
  v4 := Try.zeroValue4
  t22 := Try.underlying29
  a22 := Try.isAgg29
  z22 := Try.sizeOf29
  v22 := Try.zeroValue29
  i3 := by kernel_rfl }
open Go.RowKit Go.Lib Go.Sort in
theorem Try.slices_Compact_int (blk off cap : Nat) (zs : List Int) (w : World) (hH : Holds (Value.int .i64) w blk off zs.toArray) (hsz : zs.length ≤ 9223372036854775807) (hcap : zs.length ≤ cap) :
    Calls Try.prog 20 #[.slice (some ⟨blk, off, none⟩) zs.length cap] w fun e w' => e = .returned (.slice (some ⟨blk, off, none⟩) (Lib.compact zs).length cap) ∧ ∃ q, w' = putRow (Value.int .i64) (Sort.ahead w q) blk off (Lib.compact zs ++ List.replicate (zs.length - (Lib.compact zs).length) 0).toArray := Any.slices_Compact_int Try.laysNm220 blk off cap zs w hH hsz hcap
open Go.RowKit Go.Lib Go.Sort in
theorem Try.slices_Compact_int_empty (a : Option Addr) (cap : Nat) (w : World) :
    Calls Try.prog 20 #[.slice a 0 cap] w fun e w' => e = .returned (.slice a 0 cap) ∧ w' = w := Any.slices_Compact_int_empty Try.laysNm220 a cap w
end Go.Proofs

/-
  The codes' contracts: the library's sort and compaction of numbers. No condition.
-/
set_option linter.unusedVariables false
set_option linter.unusedSimpArgs false
namespace Cg
open Go Go.Proofs Go.Shelf
theorem k_SortI : SoundC Try.prog K_SortI.1 K_SortI.2 := ⟨callable_of (by kernel_rfl), fun l hl S μ w vals hok hrel => by
  have hl' : l.length ≤ 4294967296 := hl
  obtain ⟨y0, r0, rfl, ha, hc⟩ := hrel
  cases hc
  have hsl : (Pl.sortI l).length = l.length := List.length_mergeSort l
  have nil0 : ∀ (p : Option Addr) (cap : Nat), l = [] → y0 = .slice p 0 cap → Calls Try.prog K_SortI.1 [y0].toArray w (fun e w' => ∃ v, ∃ y : Unit, ∃ S' μ', e = .returned v ∧ True ∧ Evo S μ [arI l] w S' μ' [arI (Pl.sortI l)] w' ∧ Rel S' μ' w' (.tup []) v) := fun p cap e0 e1 => by
    subst e1
    refine (Any.slices_Sort_int_none Try.lays189 p cap w).mono fun e w' ⟨he, hw⟩ => ?_
    subst hw
    subst e0
    have e2 : Pl.sortI [] = [] := by unfold Pl.sortI; simp
    rw [e2]
    exact ⟨_, (), S, μ, he, trivial, Evo.same hok, ⟨[], rfl, rfl⟩⟩
  unfold Rel at ha
  cases hb : (μ 0).b with
  | none =>
    simp only [hb] at ha
    obtain ⟨_, h0, a, rfl⟩ := ha
    exact nil0 a 0 (List.length_eq_zero_iff.1 h0) rfl
  | some b =>
    simp only [hb] at ha
    obtain ⟨hcap, a, rfl, haddr⟩ := ha
    by_cases h0 : l.length = 0
    · exact nil0 (some a) _ (List.length_eq_zero_iff.1 h0) (by rw [h0])
    · have e1 : a = ⟨b, (μ 0).base, none⟩ := by
        rw [haddr (by omega)]; simp
      subst e1
      have hlt : b < w.heap.size := (hok.own 0 b (by simp [LiveAt, arI]) hb).2
      refine Calls.mono (Try.slices_Sort_int b (μ 0).base ((μ 0).cap - 0) l w (row_holds hok hb) hlt (by omega)) fun e w' ⟨he, n, os, hw⟩ => ?_
      refine ⟨_, (), S, μ, he, trivial, ?_, ⟨[], rfl, rfl⟩⟩
      rw [hw]
      exact row_turned (d := Pl.sortI l) hok hb hsl n os⟩
theorem compactL_eq (l : List Int) : Go.Lib.compact l = Pl.compactL l := by
  unfold Go.Lib.compact Go.Lib.compactUpTo Pl.compactL Pl.compactN
  have e : ∀ k, l.toArray[k]! = l.getD k 0 := fun k => by
    by_cases h : k < l.length
    · simp [h]
    · simp [h]
  have e2 : Go.Lib.keeps l.toArray = Pl.keepsL l := by
    funext j
    unfold Go.Lib.keeps Pl.keepsL
    rw [e, e]
  rw [e2]
  congr 1
  funext j
  exact e j
theorem k_Compact : SoundC Try.prog K_Compact.1 K_Compact.2 := ⟨callable_of (by kernel_rfl), fun l hl S μ w vals hok hrel => by
  have hl' : l.length ≤ 4294967296 := hl
  obtain ⟨y0, r0, rfl, ha, hc⟩ := hrel
  cases hc
  have ha0 := ha
  have hle : (Pl.compactL l).length ≤ l.length := by
    unfold Pl.compactL Pl.compactN
    rw [List.length_map]
    exact Nat.le_trans (List.length_filter_le _ _) (by rw [List.length_range]; exact Nat.le_refl _)
  have nil0 : ∀ (p : Option Addr) (cap : Nat), l = [] → y0 = .slice p 0 cap → Calls Try.prog K_Compact.1 [y0].toArray w (fun e w' => ∃ v, ∃ y : Unit, ∃ S' μ', e = .returned v ∧ True ∧ Evo S μ [arI l] w S' μ' [arI (Pl.compactL l ++ List.replicate (l.length - (Pl.compactL l).length) 0)] w' ∧ Rel S' μ' w' (.osl 0 0 (Pl.compactL l).length) v) := fun p cap e0 e1 => by
    subst e1
    refine (Try.slices_Compact_int_empty p cap w).mono fun e w' ⟨he, hw⟩ => ?_
    subst hw
    subst e0
    exact ⟨_, (), S, μ, he, trivial, Evo.same hok, ha0⟩
  unfold Rel at ha
  cases hb : (μ 0).b with
  | none =>
    simp only [hb] at ha
    obtain ⟨_, h0, a, rfl⟩ := ha
    have e0 : l = [] := List.length_eq_zero_iff.1 h0
    exact nil0 a 0 e0 rfl
  | some b =>
    simp only [hb] at ha
    obtain ⟨hcap, a, rfl, haddr⟩ := ha
    by_cases h0 : l.length = 0
    · have e0 : l = [] := List.length_eq_zero_iff.1 h0
      exact nil0 (some a) _ e0 (by rw [h0])
    · have e1 : a = ⟨b, (μ 0).base, none⟩ := by
        rw [haddr (by omega)]; simp
      subst e1
      have hcon := Try.slices_Compact_int b (μ 0).base ((μ 0).cap - 0) l w (row_holds hok hb) (by omega) (by omega)
      refine Calls.mono hcon fun e w' ⟨he, q, hw⟩ => ?_
      rw [compactL_eq] at he hw
      refine ⟨_, (), S, μ, he, trivial, ?_, ?_⟩
      · have := row_turned (d := Pl.compactL l ++ List.replicate (l.length - (Pl.compactL l).length) 0) hok hb (by simp; omega) q #[]
        rw [Go.Sort.grow_empty] at this
        rw [hw]; exact this
      · unfold Rel
        simp only [hb]
        exact ⟨by omega, _, rfl, fun _ => by simp⟩⟩
end Cg

/-
  The codes' contracts: the given equations that an explanation uses. No condition.
-/
set_option linter.unusedVariables false
set_option linter.unusedSimpArgs false
set_option maxRecDepth 100000
namespace Cg
open Go Go.Proofs Pl
theorem ints_app {o u w m : List Int} (hm : m = o ++ u ++ w) : IsO (AObj.arr (o.length + u.length + w.length) 1 (joinC (o.length + u.length) (cI (o ++ u)) (cI w))) (arI m) := by
  subst hm
  have := ints_join (l := o ++ u) (m := w)
  rw [List.length_append] at this
  exact this
set_option maxHeartbeats 8000000 in
theorem g_uses (n : Nat) (x : WP) (h1 : SmTr costPW (.mk x.1 x.2) ∧ manyL x.2 < n + 1) : GoalW Try.prog [K_uses n] (A_uses x) (K_uses (n + 1)).1 (K_uses (n + 1)).2 (x) := GoalW.of (vc_uses n x) (by
  simp (maxSteps := 2000000) [-List.getD_eq_getElem?_getD, -List.mem_cons, -Bool.forall_bool, -Bool.exists_bool, and_assoc, peta, tl_inj, ex_1, ex_2, ex_3, ex_4, ex_5, ex_6, ex_7, ex_8, ex_9, ey_2, ey_3, ey_4, ey_5, ey_6, ey_7, ey_8, ey_9]
  obtain ⟨s1, s2⟩ := h1
  have s1 : costTr costPW (.mk x.1 x.2) ≤ 1048576 := s1
  have hc := costTr_eq (f := costPW) (.mk x.1 x.2)
  simp only [Tree.kids_mk, Tree.val_mk] at hc
  have hl := usesP_len s1
  have hp := usesP_eq x
  rw [hp, List.length_append] at hl
  have own2 : x.1.1 = 2 → ownN x.1 = [x.1.2.1] := fun h => if_pos h
  have own0 : ¬ x.1.1 = 2 → ownN x.1 = [] := fun h => if_neg h
  have hz : usesWs (List.take 0 x.2) = [] := by simp [usesWs]
  refine ⟨fun h2 => ⟨⟨0, Nat.zero_le _, by rw [own2 h2, hz]; rfl, rfl, ?_⟩, fun i hi => ⟨fun hlt => ?_, fun hge => ?_⟩⟩, fun h2 => ⟨⟨0, Nat.zero_le _, own0 h2, hz, rfl, own0 h2, hz⟩, fun i hi => ⟨fun hlt => ?_, fun hge => ?_⟩⟩⟩
  · rw [own2 h2, hz]
    exact ints_push (l := []) (v := x.1.2.1)
  all_goals first
    | (have e := usesWs_take hlt
       have c1 := costTr_mem (f := costPW) (getD_mem dW hlt)
       have c2 := many_mem (getD_mem dW hlt)
       have c3 := (x.2.getD i dW).many_eq
       have c4 := usesWs_len (x.2.take (i + 1))
       have c5 := usesWs_len x.2
       have c6 := manyP_le s1
       have c7 := ownN_len x.1
       have c8 := usesW_len (x.2.getD i dW)
       have c9 := usesWs_len (x.2.take i)
       have c10 : manyL (x.2.take i) ≤ manyL x.2 := manyW_le i
       have hml := many_len x.2
       rw [usesP_eta]
       exact ⟨hlt, by omega, by omega, by omega, i + 1, hlt, by omega, by rw [e, List.length_append]; omega, by rw [wrap_small (by omega) (by omega)]; omega, ints_app (by rw [e, List.append_assoc])⟩)
    | (rw [List.take_of_length_le hge, hp, List.length_append]
       exact ⟨rfl, .inr rfl⟩))
theorem k_uses (n : Nat) : SoundC Try.prog (K_uses n).1 (K_uses n).2 := by
  induction n with
  | zero => exact sound_of hm CtxOK.nil (fun _ => []) (by kernel_rfl) fun x h => absurd h.2 (Nat.not_lt_zero _)
  | succ n ih => exact sound_ofW hm (CtxOK.nil.and (K := K_uses n) ih) (fun (x : WP) => A_uses x) (by kernel_rfl) fun (x : WP) hb => g_uses n x hb
theorem k_usesA : SoundC Try.prog K_usesA.1 K_usesA.2 := SoundC.famE (fun x : WP => manyL x.2) fun n => k_uses n
set_option maxHeartbeats 8000000 in
theorem g_iWhyUsesO (x : WP) (h1 : SmTr costPW (.mk x.1 x.2)) : GoalW Try.prog [K_usesA, K_SortI, K_Compact] ([]) K_iWhyUsesO.1 K_iWhyUsesO.2 (x) := GoalW.of (vc_iWhyUsesO x) (by
  simp (maxSteps := 2000000) [-List.getD_eq_getElem?_getD, -List.mem_cons, -Bool.forall_bool, -Bool.exists_bool, and_assoc, peta, tl_inj, ex_1, ex_2, ex_3, ex_4, ex_5, ex_6, ex_7, ex_8, ex_9, ey_2, ey_3, ey_4, ey_5, ey_6, ey_7, ey_8, ey_9]
  have s1 : costTr costPW (.mk x.1 x.2) ≤ 1048576 := h1
  have hl := usesP_len s1
  have hs := sortI_len (usesP x)
  exact ⟨s1, usesP x, by omega, rfl, .inr rfl, sortI (usesP x), by omega, hs.symm, .inr rfl, rfl, .inr rfl⟩)
theorem k_iWhyUsesO : SoundC Try.prog K_iWhyUsesO.1 K_iWhyUsesO.2 := sound_ofW hm (((CtxOK.nil.and k_Compact).and k_SortI).and k_usesA) (fun (x : WP) => []) (by kernel_rfl) fun (x : WP) hb => g_iWhyUsesO x hb
theorem ins_is {l : List Int} {n : Int} {x : Nat} (h : insAt l n = x) (hx : x ≤ l.length) (hn : ¬ (x < l.length ∧ l.getD x 0 = n)) :
    Is (AV.sl (x + 1 + (l.length - x)) 1 fun (i j : Nat) => joinC (x + 1) (fun (i j : Nat) => joinC x (cI l) (rowsCell [[i64 n]]) i j) (fun (i j : Nat) => i64 (l.getD (i + x) 0)) i j) (ints (insN l n)) := by
  have e : insN l n = l.take x ++ [n] ++ l.drop x := by unfold insN; rw [h, if_neg hn]
  have hlen : (insN l n).length = x + 1 + (l.length - x) := by rw [e]; simp only [List.length_append, List.length_take, List.length_drop, List.length_singleton]; omega
  refine ⟨hlen.symm, .inr ⟨rfl, fun i hi j hj => ?_⟩⟩
  obtain rfl : j = 0 := by omega
  show Is (joinC (x + 1) (fun (i j : Nat) => joinC x (cI l) (rowsCell [[i64 n]]) i j) (fun (i j : Nat) => i64 (l.getD (i + x) 0)) i 0) (i64 ((insN l n).getD i 0))
  have tl : (l.take x).length = x := by rw [List.length_take]; omega
  rw [e]
  by_cases h1 : i < x
  · rw [joinC_lt (show i < x + 1 by omega)]
    show Is (joinC x (cI l) (rowsCell [[i64 n]]) i 0) _
    rw [joinC_lt h1]
    show Is (i64 (l.getD i 0)) _
    rw [Is_i64, List.append_assoc]
    simp only [List.getD_eq_getElem?_getD]
    rw [List.getElem?_append_left (by omega), List.getElem?_take, if_pos h1]
  · by_cases h2 : i = x
    · subst h2
      rw [joinC_lt (Nat.lt_succ_self i)]
      show Is (joinC i (cI l) (rowsCell [[i64 n]]) i 0) _
      rw [joinC_ge (Nat.le_refl i), Nat.sub_self]
      show Is (i64 n) _
      rw [Is_i64, List.append_assoc]
      simp only [List.getD_eq_getElem?_getD]
      rw [List.getElem?_append_right (by omega), tl, Nat.sub_self]
      rfl
    · rw [joinC_ge (show x + 1 ≤ i by omega)]
      show Is (i64 (l.getD (i - (x + 1) + x) 0)) _
      rw [Is_i64]
      simp only [List.getD_eq_getElem?_getD]
      rw [List.getElem?_append_right (by simp only [List.length_append, List.length_singleton]; omega), List.getElem?_drop]
      congr 2
      simp only [List.length_append, List.length_singleton]; omega
set_option maxHeartbeats 8000000 in
theorem g_l5Add (l : List Int) (n : Int) (h1 : l.length ≤ 4194304) : GoalW Try.prog [] (A_l5Add l n) K_l5Add.1 K_l5Add.2 ((l, n)) := GoalW.of (vc_l5Add l n) (by
  simp (maxSteps := 2000000) [-List.getD_eq_getElem?_getD, -List.mem_cons, -Bool.forall_bool, -Bool.exists_bool, and_assoc, peta, tl_inj, ex_1, ex_2, ex_3, ex_4, ex_5, ex_6, ex_7, ex_8, ex_9, ey_2, ey_3, ey_4, ey_5, ey_6, ey_7, ey_8, ey_9]
  have hl : l.length ≤ 4194304 := h1
  refine ⟨⟨0, Nat.zero_le _, rfl⟩, fun x hx => ?_⟩
  have hle := insAt_le l n
  have stay : insAt l n = x → x < l.length → l.getD x 0 = n → l = insN l n := fun e a b => by unfold insN; rw [e, if_pos ⟨a, b⟩]
  refine ⟨fun hlt => ⟨hlt, fun h2 => ⟨x + 1, insAt_step hx hlt h2, by omega, by rw [wrap_small (by omega) (by omega)]; omega⟩, fun h2 => ?_⟩, fun hge => ?_⟩
  · have e := insAt_stop hx (.inl h2)
    exact ⟨fun _ => ⟨hlt, fun h3 => stay e hlt h3, fun h3 => ⟨by omega, by omega, by omega, by omega, by omega, by omega, ins_is e (by omega) fun q => h3 q.2⟩⟩, fun h3 => by omega⟩
  · have e := insAt_stop hx (.inr hge)
    exact ⟨fun h3 => by omega, fun _ => ⟨by omega, by omega, by omega, by omega, by omega, by omega, ins_is e (by omega) fun q => by omega⟩⟩)
theorem k_l5Add : SoundC Try.prog K_l5Add.1 K_l5Add.2 := sound_ofW hm CtxOK.nil (fun ((l, n) : List Int × Int) => A_l5Add l n) (by kernel_rfl) fun ((l, n) : List Int × Int) hb => g_l5Add l n hb
set_option maxHeartbeats 8000000 in
theorem g_l5Uses (n : Nat) (l : List Int) (x : WP) (h1 : (l.length + (usesP x).length ≤ 4194304 ∧ SmTr costPW (.mk x.1 x.2)) ∧ manyL x.2 < n + 1) : GoalW Try.prog [K_l5Add, K_l5Uses n] (A_l5Uses l x) (K_l5Uses (n + 1)).1 (K_l5Uses (n + 1)).2 ((l, x)) := GoalW.of (vc_l5Uses n l x) (by
  simp (maxSteps := 2000000) [-List.getD_eq_getElem?_getD, -List.mem_cons, -Bool.forall_bool, -Bool.exists_bool, and_assoc, peta, tl_inj, ex_1, ex_2, ex_3, ex_4, ex_5, ex_6, ex_7, ex_8, ex_9, ey_2, ey_3, ey_4, ey_5, ey_6, ey_7, ey_8, ey_9]
  obtain ⟨⟨s0, s1⟩, s2⟩ := h1
  have s1 : costTr costPW (.mk x.1 x.2) ≤ 1048576 := s1
  have hc := costTr_eq (f := costPW) (.mk x.1 x.2)
  simp only [Tree.kids_mk, Tree.val_mk] at hc
  have hp := usesP_eq x
  have own2 : x.1.1 = 2 → ownN x.1 = [x.1.2.1] := fun h => if_pos h
  have own0 : ¬ x.1.1 = 2 → ownN x.1 = [] := fun h => if_neg h
  have hz : usesWs (List.take 0 x.2) = [] := by simp [usesWs]
  refine ⟨fun h2 => ⟨by omega, ⟨0, Nat.zero_le _, by rw [own2 h2, hz]; rfl, rfl⟩, fun i hi => ⟨fun hlt => ?_, fun hge => ?_⟩⟩, fun h2 => ⟨⟨0, Nat.zero_le _, by rw [own0 h2, hz]; rfl, rfl⟩, fun i hi => ⟨fun hlt => ?_, fun hge => ?_⟩⟩⟩
  all_goals first
    | (have e := usesWs_take hlt
       have c1 := costTr_mem (f := costPW) (getD_mem dW hlt)
       have c2 := many_mem (getD_mem dW hlt)
       have c3 := (x.2.getD i dW).many_eq
       have hml := many_len x.2
       have c6 := manyP_le s1
       have c7 : usesWs (x.2.take (i + 1)) ++ usesWs (x.2.drop (i + 1)) = usesWs x.2 := usesWs_split _ _
       have c8 := congrArg List.length c7
       have c9 := insAll_len l (ownN x.1 ++ usesWs (x.2.take i))
       rw [e] at c8
       rw [hp] at s0
       simp only [List.length_append] at c8 c9 s0
       rw [usesP_eta]
       refine ⟨hlt, by omega, by omega, by omega, i + 1, hlt, by omega, ?_, by rw [wrap_small (by omega) (by omega)]; omega⟩
       rw [← insAll_app, e, List.append_assoc])
    | (rw [List.take_of_length_le hge, hp]))
theorem k_l5Uses (n : Nat) : SoundC Try.prog (K_l5Uses n).1 (K_l5Uses n).2 := by
  induction n with
  | zero => exact sound_of hm CtxOK.nil (fun _ => []) (by kernel_rfl) fun x h => absurd h.2 (Nat.not_lt_zero _)
  | succ n ih => exact sound_ofW hm ((CtxOK.nil.and (K := K_l5Uses n) ih).and k_l5Add) (fun ((l, x) : List Int × WP) => A_l5Uses l x) (by kernel_rfl) fun ((l, x) : List Int × WP) hb => g_l5Uses n l x hb
theorem k_l5UsesA : SoundC Try.prog K_l5UsesA.1 K_l5UsesA.2 := SoundC.famI (fun x : List Int × WP => manyL x.2.2) fun n => k_l5Uses n
set_option maxHeartbeats 8000000 in
theorem g_sWhyUses (x : WP) (h1 : SmTr costPW (.mk x.1 x.2)) : GoalW Try.prog [K_l5UsesA] ([]) K_sWhyUses.1 K_sWhyUses.2 (x) := GoalW.of (vc_sWhyUses x) (by
  simp (maxSteps := 2000000) [-List.getD_eq_getElem?_getD, -List.mem_cons, -Bool.forall_bool, -Bool.exists_bool, and_assoc, peta, tl_inj, ex_1, ex_2, ex_3, ex_4, ex_5, ex_6, ex_7, ex_8, ex_9, ey_2, ey_3, ey_4, ey_5, ey_6, ey_7, ey_8, ey_9]
  have s1 : costTr costPW (.mk x.1 x.2) ≤ 1048576 := h1
  have hl := usesP_len s1
  exact ⟨by omega, s1, rfl⟩)
theorem k_sWhyUses : SoundC Try.prog K_sWhyUses.1 K_sWhyUses.2 := sound_ofW hm (CtxOK.nil.and k_l5UsesA) (fun (x : WP) => []) (by kernel_rfl) fun (x : WP) hb => g_sWhyUses x hb
end Cg

/-
  What is left to show of each function's code, printed by a program: Same. No condition.
-/
set_option maxRecDepth 100000
set_option linter.unusedVariables false
namespace Cg
open Go Go.Proofs
theorem vc_szWhy_ (n : Nat) (x : Pl.WP × Int) : (∃ x_1 : Pl.TP × Int,
 ((x.1.1.2.2.1 = x_1.1.1 ∧ Is (terms x.1.1.2.2.2) (terms x_1.1.2) ∧ True) ∧ x.2 = x_1.2 ∧ True) ∧ (MlT (Pl.Tree.mk x_1.1.1 x_1.1.2) ∧ Fu x_1.2) ∧ condP (decide (Pl.lim (x_1.2 - (↑(Pl.costT (Pl.Tree.mk x_1.1.1 x_1.1.2)) : Int)) < (0 : Int)))
 ((-1 : Int) = Pl.lim (x.2 - (↑(Pl.costTr Pl.costPW (Pl.Tree.mk x.1.1 x.1.2)) : Int)))
 (∃ x_2 : List Pl.Wy × Int,
 (Is (whys x.1.2) (whys x_2.1) ∧ Pl.lim (x_1.2 - (↑(Pl.costT (Pl.Tree.mk x_1.1.1 x_1.1.2)) : Int)) = x_2.2 ∧ True) ∧ (((Ml x_2.1 ∧ ∀ (t : Pl.Wy), t ∈ x_2.1 → MlW t) ∧ Fu x_2.2) ∧ Pl.manyL x_2.1 < n) ∧ condP (decide (Pl.lim (x_2.2 - (↑(x_2.1.length + Pl.costTrs Pl.costPW x_2.1) : Int)) < (0 : Int)))
 ((-1 : Int) = Pl.lim (x.2 - (↑(Pl.costTr Pl.costPW (Pl.Tree.mk x.1.1 x.1.2)) : Int)))
 (Pl.lim (x_2.2 - (↑(x_2.1.length + Pl.costTrs Pl.costPW x_2.1) : Int)) = Pl.lim (x.2 - (↑(Pl.costTr Pl.costPW (Pl.Tree.mk x.1.1 x.1.2)) : Int))))) = Goal Try.prog [K_szT, (K_szWhyS_ n)] ([]) (K_szWhy_ n).1 (K_szWhy_ n).2 (x) := by kernel_rfl

theorem vc_szWhyS_ (n : Nat) (x : List Pl.Wy × Int) : (condP (decide (IntKind.i64.wrap (x.2 - (↑x.1.length : Int)) < (0 : Int))) ((-1 : Int) = Pl.lim (x.2 - (↑(x.1.length + Pl.costTrs Pl.costPW x.1) : Int)))
 ((∃ x_1 : Nat,
 (x_1 ≤ x.1.length ∧ (0 : Int) ≤ x.2 - (↑x.1.length : Int) - (↑(Pl.costTrs Pl.costPW (List.take x_1 x.1)) : Int)) ∧ (Is (whys x.1) (whys x.1) ∧ IntKind.i64.wrap (x.2 - (↑x.1.length : Int)) = x.2 - (↑x.1.length : Int) - (↑(Pl.costTrs Pl.costPW (List.take x_1 x.1)) : Int) ∧ (0 : Int) = (↑x_1 : Int) ∧ True) ∧ True) ∧ ∀ (x_1 : Nat),
 x_1 ≤ x.1.length ∧ (0 : Int) ≤ x.2 - (↑x.1.length : Int) - (↑(Pl.costTrs Pl.costPW (List.take x_1 x.1)) : Int) →
 condP (decide ((↑x_1 : Int) < (↑x.1.length : Int)))
 (((0 : Int) ≤ (↑x_1 : Int) ∧ (↑x_1 : Int) < (↑x.1.length : Int)) ∧ x_1 < x.1.length ∧ ∃ x_2 : Pl.WP × Int,
 (((Pl.Tree.val (x.1.getD x_1 Pl.dW)).1 = x_2.1.1.1 ∧ (Pl.Tree.val (x.1.getD x_1 Pl.dW)).2.1 = x_2.1.1.2.1 ∧ (Pl.Tree.val (x.1.getD x_1 Pl.dW)).2.2.1 = x_2.1.1.2.2.1 ∧ Is (terms (Pl.Tree.val (x.1.getD x_1 Pl.dW)).2.2.2) (terms x_2.1.1.2.2.2) ∧ Is (kidsW (x.1.getD x_1 Pl.dW)) (whys x_2.1.2) ∧ True) ∧ x.2 - (↑x.1.length : Int) - (↑(Pl.costTrs Pl.costPW (List.take x_1 x.1)) : Int) = x_2.2 ∧ True) ∧ ((MlW (Pl.Tree.mk x_2.1.1 x_2.1.2) ∧ Fu x_2.2) ∧ Pl.manyL x_2.1.2 < n) ∧ condP (decide (Pl.lim (x_2.2 - (↑(Pl.costTr Pl.costPW (Pl.Tree.mk x_2.1.1 x_2.1.2)) : Int)) < (0 : Int)))
 ((-1 : Int) = Pl.lim (x.2 - (↑(x.1.length + Pl.costTrs Pl.costPW x.1) : Int)))
 (Exists fun (x' : Nat) =>
 (x' ≤ x.1.length ∧ (0 : Int) ≤ x.2 - (↑x.1.length : Int) - (↑(Pl.costTrs Pl.costPW (List.take x' x.1)) : Int)) ∧ x.1.length - x' < x.1.length - x_1 ∧ (Is (whys x.1) (whys x.1) ∧ Pl.lim (x_2.2 - (↑(Pl.costTr Pl.costPW (Pl.Tree.mk x_2.1.1 x_2.1.2)) : Int)) =
 x.2 - (↑x.1.length : Int) - (↑(Pl.costTrs Pl.costPW (List.take x' x.1)) : Int) ∧ IntKind.i64.wrap ((↑x_1 : Int) + (1 : Int)) = (↑x' : Int) ∧ True) ∧ True))
 (x.2 - (↑x.1.length : Int) - (↑(Pl.costTrs Pl.costPW (List.take x_1 x.1)) : Int) = Pl.lim (x.2 - (↑(x.1.length + Pl.costTrs Pl.costPW x.1) : Int))))) = Goal Try.prog [(K_szWhy_ n)] (A_szWhyS x.1 x.2) (K_szWhyS_ (n + 1)).1 (K_szWhyS_ (n + 1)).2 (x) := by kernel_rfl

theorem vc_eqWhy_ (n : Nat) (x : Pl.WP × Pl.WP) : (condP (x.1.1.1 != x.2.1.1) (false = decide (x.1 = x.2))
 (condP (x.1.1.2.1 != x.2.1.2.1) (false = decide (x.1 = x.2))
 (∃ x_1 : Pl.TP × Pl.TP,
 ((x.1.1.2.2.1 = x_1.1.1 ∧ Is (terms x.1.1.2.2.2) (terms x_1.1.2) ∧ True) ∧ (x.2.1.2.2.1 = x_1.2.1 ∧ Is (terms x.2.1.2.2.2) (terms x_1.2.2) ∧ True) ∧ True) ∧ SmT (Pl.Tree.mk x_1.1.1 x_1.1.2) ∧ condP (!decide (x_1.1 = x_1.2)) (false = decide (x.1 = x.2))
 (∃ x_2 : List Pl.Wy × List Pl.Wy,
 (Is (whys x.1.2) (whys x_2.1) ∧ Is (whys x.2.2) (whys x_2.2) ∧ True) ∧ (SmTrs Pl.costPW x_2.1 ∧ Pl.manyL x_2.1 < n) ∧ condP (!decide (x_2.1 = x_2.2)) (false = decide (x.1 = x.2)) (true = decide (x.1 = x.2)))))) = Goal Try.prog [K_eqT, (K_eqWhyS_ n)] ([]) (K_eqWhy_ n).1 (K_eqWhy_ n).2 (x) := by kernel_rfl

theorem vc_eqWhyS_ (n : Nat) (x : List Pl.Wy × List Pl.Wy) : (condP ((↑x.1.length : Int) != (↑x.2.length : Int)) (false = decide (x.1 = x.2))
 ((∃ x_1 : Nat,
 (x_1 ≤ x.1.length ∧ x.1.length = x.2.length ∧ (x.1 = x.2 ↔ List.drop x_1 x.1 = List.drop x_1 x.2)) ∧ (Is (whys x.1) (whys x.1) ∧ Is (whys x.2) (whys x.2) ∧ (0 : Int) = (↑x_1 : Int) ∧ True) ∧ True) ∧ ∀ (x_1 : Nat),
 x_1 ≤ x.1.length ∧ x.1.length = x.2.length ∧ (x.1 = x.2 ↔ List.drop x_1 x.1 = List.drop x_1 x.2) →
 condP (decide ((↑x_1 : Int) < (↑x.1.length : Int)))
 (((0 : Int) ≤ (↑x_1 : Int) ∧ (↑x_1 : Int) < (↑x.1.length : Int)) ∧ x_1 < x.1.length ∧ ((0 : Int) ≤ (↑x_1 : Int) ∧ (↑x_1 : Int) < (↑x.2.length : Int)) ∧ x_1 < x.2.length ∧ ∃ x_2 : Pl.WP × Pl.WP,
 (((Pl.Tree.val (x.1.getD x_1 Pl.dW)).1 = x_2.1.1.1 ∧ (Pl.Tree.val (x.1.getD x_1 Pl.dW)).2.1 = x_2.1.1.2.1 ∧ (Pl.Tree.val (x.1.getD x_1 Pl.dW)).2.2.1 = x_2.1.1.2.2.1 ∧ Is (terms (Pl.Tree.val (x.1.getD x_1 Pl.dW)).2.2.2) (terms x_2.1.1.2.2.2) ∧ Is (kidsW (x.1.getD x_1 Pl.dW)) (whys x_2.1.2) ∧ True) ∧ ((Pl.Tree.val (x.2.getD x_1 Pl.dW)).1 = x_2.2.1.1 ∧ (Pl.Tree.val (x.2.getD x_1 Pl.dW)).2.1 = x_2.2.1.2.1 ∧ (Pl.Tree.val (x.2.getD x_1 Pl.dW)).2.2.1 = x_2.2.1.2.2.1 ∧ Is (terms (Pl.Tree.val (x.2.getD x_1 Pl.dW)).2.2.2) (terms x_2.2.1.2.2.2) ∧ Is (kidsW (x.2.getD x_1 Pl.dW)) (whys x_2.2.2) ∧ True) ∧ True) ∧ (SmTr Pl.costPW (Pl.Tree.mk x_2.1.1 x_2.1.2) ∧ Pl.manyL x_2.1.2 < n) ∧ condP (!decide (x_2.1 = x_2.2)) (false = decide (x.1 = x.2))
 (Exists fun (x' : Nat) =>
 (x' ≤ x.1.length ∧ x.1.length = x.2.length ∧ (x.1 = x.2 ↔ List.drop x' x.1 = List.drop x' x.2)) ∧ x.1.length - x' < x.1.length - x_1 ∧ (Is (whys x.1) (whys x.1) ∧ Is (whys x.2) (whys x.2) ∧ IntKind.i64.wrap ((↑x_1 : Int) + (1 : Int)) = (↑x' : Int) ∧ True) ∧ True))
 (true = decide (x.1 = x.2)))) = Goal Try.prog [(K_eqWhy_ n)] (A_eqWhyS x.1 x.2) (K_eqWhyS_ (n + 1)).1 (K_eqWhyS_ (n + 1)).2 (x) := by kernel_rfl

end Cg

/-
  What is left to show of each function's code, printed by a program: Tsort. No condition.
-/
set_option maxRecDepth 100000
set_option linter.unusedVariables false
namespace Cg
open Go Go.Proofs
end Cg

/-
  What is left to show of each function's code, printed by a program: Sort. No condition.
-/
set_option maxRecDepth 100000
set_option linter.unusedVariables false
namespace Cg
open Go Go.Proofs
theorem vc_szTerm (n : Nat) (a : ByteArray) (b : List Pl.Tm) (k : Int) : (condP (decide (IntKind.i64.wrap (k - (↑a.size : Int)) < (0 : Int))) ((-1 : Int) = Pl.lim (k - (↑(Pl.costT (Pl.Tree.mk a b)) : Int)))
 (∃ x : List Pl.Tm × Int,
 (Is (terms b) (terms x.1) ∧ IntKind.i64.wrap (k - (↑a.size : Int)) = x.2 ∧ True) ∧ (((Ml x.1 ∧ ∀ (t : Pl.Tm), t ∈ x.1 → MlT t) ∧ Fu x.2) ∧ Pl.manyL x.1 < n) ∧ condP (decide (Pl.lim (x.2 - (↑(x.1.length + Pl.costTs x.1) : Int)) < (0 : Int))) ((-1 : Int) = Pl.lim (k - (↑(Pl.costT (Pl.Tree.mk a b)) : Int)))
 (Pl.lim (x.2 - (↑(x.1.length + Pl.costTs x.1) : Int)) = Pl.lim (k - (↑(Pl.costT (Pl.Tree.mk a b)) : Int))))) = Goal Try.prog [(K_szTermS n)] ([]) (K_szTerm n).1 (K_szTerm n).2 (((a, b), k)) := by kernel_rfl

theorem vc_szTermS (n : Nat) (l : List Pl.Tm) (k : Int) : (condP (decide (IntKind.i64.wrap (k - (↑l.length : Int)) < (0 : Int))) ((-1 : Int) = Pl.lim (k - (↑(l.length + Pl.costTs l) : Int)))
 ((∃ x : Nat,
 (x ≤ l.length ∧ (0 : Int) ≤ k - (↑l.length : Int) - (↑(Pl.costTs (List.take x l)) : Int)) ∧ (Is (terms l) (terms l) ∧ IntKind.i64.wrap (k - (↑l.length : Int)) = k - (↑l.length : Int) - (↑(Pl.costTs (List.take x l)) : Int) ∧ (0 : Int) = (↑x : Int) ∧ True) ∧ True) ∧ ∀ (x : Nat),
 x ≤ l.length ∧ (0 : Int) ≤ k - (↑l.length : Int) - (↑(Pl.costTs (List.take x l)) : Int) →
 condP (decide ((↑x : Int) < (↑l.length : Int)))
 (((0 : Int) ≤ (↑x : Int) ∧ (↑x : Int) < (↑l.length : Int)) ∧ x < l.length ∧ ∃ x_1 : Pl.TP × Int,
 ((Pl.Tree.val (l.getD x Pl.dT) = x_1.1.1 ∧ Is (kidsT (l.getD x Pl.dT)) (terms x_1.1.2) ∧ True) ∧ k - (↑l.length : Int) - (↑(Pl.costTs (List.take x l)) : Int) = x_1.2 ∧ True) ∧ ((MlT (Pl.Tree.mk x_1.1.1 x_1.1.2) ∧ Fu x_1.2) ∧ Pl.manyL x_1.1.2 < n) ∧ condP (decide (Pl.lim (x_1.2 - (↑(Pl.costT (Pl.Tree.mk x_1.1.1 x_1.1.2)) : Int)) < (0 : Int))) ((-1 : Int) = Pl.lim (k - (↑(l.length + Pl.costTs l) : Int)))
 (Exists fun (x' : Nat) =>
 (x' ≤ l.length ∧ (0 : Int) ≤ k - (↑l.length : Int) - (↑(Pl.costTs (List.take x' l)) : Int)) ∧ l.length - x' < l.length - x ∧ (Is (terms l) (terms l) ∧ Pl.lim (x_1.2 - (↑(Pl.costT (Pl.Tree.mk x_1.1.1 x_1.1.2)) : Int)) = k - (↑l.length : Int) - (↑(Pl.costTs (List.take x' l)) : Int) ∧ IntKind.i64.wrap ((↑x : Int) + (1 : Int)) = (↑x' : Int) ∧ True) ∧ True))
 (k - (↑l.length : Int) - (↑(Pl.costTs (List.take x l)) : Int) = Pl.lim (k - (↑(l.length + Pl.costTs l) : Int))))) = Goal Try.prog [(K_szTerm n)] (A_szTermS l k) (K_szTermS (n + 1)).1 (K_szTermS (n + 1)).2 ((l, k)) := by kernel_rfl

theorem vc_eqTerm (n : Nat) (a : ByteArray) (b : List Pl.Tm) (c : ByteArray) (d : List Pl.Tm) : (condP (!a.toList == c.toList) (false = decide ((a, b) = (c, d)))
 (∃ x : List Pl.Tm × List Pl.Tm,
 (Is (terms b) (terms x.1) ∧ Is (terms d) (terms x.2) ∧ True) ∧ (SmTs x.1 ∧ Pl.manyL x.1 < n) ∧ condP (!decide (x.1 = x.2)) (false = decide ((a, b) = (c, d))) (true = decide ((a, b) = (c, d))))) = Goal Try.prog [(K_eqTermS n)] ([]) (K_eqTerm n).1 (K_eqTerm n).2 (((a, b), (c, d))) := by kernel_rfl

theorem vc_eqTermS (n : Nat) (l m : List Pl.Tm) : (condP ((↑l.length : Int) != (↑m.length : Int)) (false = decide (l = m))
 ((∃ x : Nat,
 (x ≤ l.length ∧ l.length = m.length ∧ (l = m ↔ List.drop x l = List.drop x m)) ∧ (Is (terms l) (terms l) ∧ Is (terms m) (terms m) ∧ (0 : Int) = (↑x : Int) ∧ True) ∧ True) ∧ ∀ (x : Nat),
 x ≤ l.length ∧ l.length = m.length ∧ (l = m ↔ List.drop x l = List.drop x m) →
 condP (decide ((↑x : Int) < (↑l.length : Int)))
 (((0 : Int) ≤ (↑x : Int) ∧ (↑x : Int) < (↑l.length : Int)) ∧ x < l.length ∧ ((0 : Int) ≤ (↑x : Int) ∧ (↑x : Int) < (↑m.length : Int)) ∧ x < m.length ∧ ∃ x_1 : Pl.TP × Pl.TP,
 ((Pl.Tree.val (l.getD x Pl.dT) = x_1.1.1 ∧ Is (kidsT (l.getD x Pl.dT)) (terms x_1.1.2) ∧ True) ∧ (Pl.Tree.val (m.getD x Pl.dT) = x_1.2.1 ∧ Is (kidsT (m.getD x Pl.dT)) (terms x_1.2.2) ∧ True) ∧ True) ∧ (SmT (Pl.Tree.mk x_1.1.1 x_1.1.2) ∧ Pl.manyL x_1.1.2 < n) ∧ condP (!decide (x_1.1 = x_1.2)) (false = decide (l = m))
 (Exists fun (x' : Nat) =>
 (x' ≤ l.length ∧ l.length = m.length ∧ (l = m ↔ List.drop x' l = List.drop x' m)) ∧ l.length - x' < l.length - x ∧ (Is (terms l) (terms l) ∧ Is (terms m) (terms m) ∧ IntKind.i64.wrap ((↑x : Int) + (1 : Int)) = (↑x' : Int) ∧ True) ∧ True))
 (true = decide (l = m)))) = Goal Try.prog [(K_eqTerm n)] (A_eqTermS l m) (K_eqTermS (n + 1)).1 (K_eqTermS (n + 1)).2 ((l, m)) := by kernel_rfl

end Cg

/-
  What is left to show of each function's code, printed by a program: Sig. No condition.
-/
set_option maxRecDepth 100000
set_option linter.unusedVariables false
namespace Cg
open Go Go.Proofs
end Cg

/-
  The codes' contracts: words. No condition.
-/
set_option linter.unusedVariables false
set_option linter.unusedSimpArgs false
set_option maxRecDepth 100000
namespace Pl
open Go Cg
theorem sumN_mem {α : Type} (f : α → Nat) {x : α} : ∀ {l : List α}, x ∈ l → f x ≤ sumN f l
  | y :: r, h => by
    simp only [sumN]
    cases List.mem_cons.1 h with
    | inl e => subst e; omega
    | inr e => have := sumN_mem f e; omega
theorem lim_nonneg {x : Int} (h : 0 ≤ lim x) : 0 ≤ x ∧ lim x = x := by
  unfold lim at h ⊢
  split at h
  · omega
  · rename_i h1; rw [if_neg h1]; exact ⟨by omega, rfl⟩
theorem lim_neg {x : Int} (h : lim x < 0) : x < 0 ∧ lim x = -1 := by
  unfold lim at h ⊢
  split at h
  · rename_i h1; rw [if_pos h1]; exact ⟨h1, rfl⟩
  · omega
theorem lim_of_neg {x : Int} (h : x < 0) : lim x = -1 := if_pos h
theorem lim_of_nonneg {x : Int} (h : 0 ≤ x) : lim x = x := if_neg (by omega)
end Pl
namespace Cg
open Go Go.Proofs Pl

theorem SmG.mem {s : Sig} (h : SmG s) {x : Sym} (hx : x ∈ s) : x.1.size ≤ 1048576 ∧ x.2.1.length ≤ 1048576 := by
  have h1 : s.length + sumN costY s ≤ 1048576 := h
  have h2 := sumN_mem costY hx
  have h3 : costY x = x.1.size + x.2.1.length := rfl
  omega
theorem SmG.len {s : Sig} (h : SmG s) : s.length ≤ 1048576 := by
  have h1 : s.length + sumN costY s ≤ 1048576 := h
  omega

end Cg

/-
  The codes' contracts: terms. No condition.
-/
set_option linter.unusedVariables false
set_option linter.unusedSimpArgs false
set_option maxRecDepth 100000
set_option maxHeartbeats 4000000
namespace Pl
open Go Cg
theorem tparts' {t u : Tm} {p : Prop} : (t.val = u.val → t.kids = u.kids → p) ↔ (t = u → p) := ⟨fun h e => h (by rw [e]) (by rw [e]), fun h e1 e2 => h (Tree.ext e1 e2)⟩
theorem costTs_take {l : List Tm} {k : Nat} (h : k < l.length) : costTs (l.take (k + 1)) = costTs (l.take k) + costT (l.getD k dT) := by
  rw [List.take_succ_eq_append_getElem h, costTs_snoc]; simp [h]
theorem costTs_take_le (l : List Tm) (k : Nat) : costTs (l.take k) ≤ costTs l := by
  induction l generalizing k with
  | nil => simp
  | cons x r ih =>
    cases k with
    | zero => simp [costTs]
    | succ k => simp only [List.take_succ_cons, costTs]; have := ih k; omega
theorem manyL_kids {l : List Tm} {t : Tm} (h : t ∈ l) : manyL t.kids < manyL l := by
  have := many_mem h
  have := t.many_eq
  omega
end Pl
namespace Cg
open Go Go.Proofs Pl
theorem SmTs.mem {l : List Tm} (h : SmTs l) {t : Tm} (ht : t ∈ l) : SmT t := by
  have := costT_mem ht
  have h1 : l.length + costTs l ≤ 1048576 := h
  show costT t ≤ 1048576
  omega
theorem SmTs.len {l : List Tm} (h : SmTs l) : l.length ≤ 1048576 := by
  have h1 : l.length + costTs l ≤ 1048576 := h
  omega
theorem SmT.kids {v : ByteArray} {ks : List Tm} (h : SmT (.mk v ks)) : SmTs ks := by
  have h1 : costT (.mk v ks) ≤ 1048576 := h
  rw [costT_eq] at h1
  simp only [Tree.val, Tree.kids] at h1
  show ks.length + costTs ks ≤ 1048576
  omega

theorem k_szTerms (n : Nat) : SoundC Try.prog (K_szTermS n).1 (K_szTermS n).2 ∧ SoundC Try.prog (K_szTerm n).1 (K_szTerm n).2 := by
  induction n with
  | zero => exact ⟨sound_of hm CtxOK.nil (fun _ => []) (by kernel_rfl) fun x h => absurd h.2 (Nat.not_lt_zero _), sound_of hm CtxOK.nil (fun _ => []) (by kernel_rfl) fun x h => absurd h.2 (Nat.not_lt_zero _)⟩
  | succ n ih =>
    have h1 : SoundC Try.prog (K_szTermS (n + 1)).1 (K_szTermS (n + 1)).2 := sound_of hm (CtxOK.nil.and (K := K_szTerm n) ih.2) (fun (l, k) => A_szTermS l k) (by kernel_rfl) fun (l, k) hl => cast (vc_szTermS n l k) (by
      obtain ⟨⟨⟨h1, h2⟩, h3, h4⟩, hn⟩ : ((Ml l ∧ ∀ t ∈ l, MlT t) ∧ Fu k) ∧ manyL l < n + 1 := hl
      rw [wrap_small (x := k - (l.length : Int)) (by omega) (by omega)]
      simp [-List.getD_eq_getElem?_getD, -List.mem_cons, -Bool.forall_bool, -Bool.exists_bool, and_assoc, peta, tl_inj, ex_1, ex_2, ex_3, ex_4, ex_5, ex_6, ex_7, ex_8, ex_9, ey_2, ey_3, ey_4, ey_5, ey_6, ey_7, ey_8, ey_9]
      refine ⟨fun h => (lim_of_neg (by omega)).symm, fun h => ⟨⟨0, by simp, by simp [costTs]; omega, by simp [costTs], rfl⟩, fun i hi hk => ⟨fun hlt => ?_, fun hge => ?_⟩⟩⟩
      · have ht := costTs_take hlt
        have hle := costTs_take_le l (i + 1)
        refine ⟨hlt, h2 _ (getD_mem dT hlt), hk, by omega, by have := manyL_kids (getD_mem dT hlt); omega, fun h5 => ?_, fun h5 => ?_⟩
        · exact (lim_of_neg (by have := (lim_neg h5).1; omega)).symm
        · obtain ⟨h6, h7⟩ := lim_nonneg h5
          exact ⟨i + 1, hlt, by omega, by omega, by rw [h7, ht]; omega, wrap_small (by omega) (by omega)⟩
      · rw [List.take_of_length_le hge] at hk ⊢
        exact (lim_of_nonneg (by omega)).symm.trans (by congr 1; omega))
    have h2 : SoundC Try.prog (K_szTerm (n + 1)).1 (K_szTerm (n + 1)).2 := sound_of hm (CtxOK.nil.and (K := K_szTermS (n + 1)) h1) (fun _ => []) (by kernel_rfl) fun (x : TP × Int) hl => cast (vc_szTerm (n + 1) x.1.1 x.1.2 x.2) (by
      obtain ⟨⟨a, b⟩, k⟩ := x
      obtain ⟨⟨h1, h3, h4⟩, hn⟩ : (MlT (.mk a b) ∧ Fu k) ∧ manyL b < n + 1 := hl
      have h5 := h1.here
      simp only [Tree.val, Tree.kids] at h5
      rw [wrap_small (x := k - (a.size : Int)) (by omega) (by omega)]
      simp [-List.getD_eq_getElem?_getD, -List.mem_cons, -Bool.forall_bool, -Bool.exists_bool, and_assoc, peta, tl_inj, ex_1, ex_2, ex_3, ex_4, ex_5, ex_6, ex_7, ex_8, ex_9, ey_2, ey_3, ey_4, ey_5, ey_6, ey_7, ey_8, ey_9]
      have e : k - (costT (.mk a b) : Int) = k - a.size - (b.length + costTs b) := by rw [costT_eq]; simp only [Tree.val, Tree.kids]; omega
      rw [e]
      exact ⟨fun h => (lim_of_neg (by omega)).symm, fun h => ⟨h5.2, fun t ht => h1.kid ht, h, by omega, hn, fun h6 => (lim_neg h6).2.symm, fun _ => rfl⟩⟩)
    exact ⟨h1, h2⟩

theorem k_eqTerms (n : Nat) : SoundC Try.prog (K_eqTermS n).1 (K_eqTermS n).2 ∧ SoundC Try.prog (K_eqTerm n).1 (K_eqTerm n).2 := by
  induction n with
  | zero => exact ⟨sound_of hm CtxOK.nil (fun _ => []) (by kernel_rfl) fun x h => absurd h.2 (Nat.not_lt_zero _), sound_of hm CtxOK.nil (fun _ => []) (by kernel_rfl) fun x h => absurd h.2 (Nat.not_lt_zero _)⟩
  | succ n ih =>
    have h1 : SoundC Try.prog (K_eqTermS (n + 1)).1 (K_eqTermS (n + 1)).2 := sound_of hm (CtxOK.nil.and (K := K_eqTerm n) ih.2) (fun (l, m) => A_eqTermS l m) (by kernel_rfl) fun (l, m) hl => cast (vc_eqTermS n l m) (by
      obtain ⟨hl, hn⟩ : SmTs l ∧ manyL l < n + 1 := hl
      simp [-List.getD_eq_getElem?_getD, -List.mem_cons, -Bool.forall_bool, -Bool.exists_bool, and_assoc, peta, tl_inj, ex_1, ex_2, ex_3, ex_4, ex_5, ex_6, ex_7, ex_8, ex_9, ey_2, ey_3, ey_4, ey_5, ey_6, ey_7, ey_8, ey_9]
      have hlen := hl.len
      simp only [tparts']
      refine ⟨fun h e => h (by rw [e]), fun h => ⟨⟨0, by simp; omega⟩, fun k hk hlm he => ⟨fun hlt => ⟨hlt, by omega, hl.mem (getD_mem dT hlt), by have := manyL_kids (getD_mem dT hlt); omega, (eq_step dT hlt hlm he).1, fun h => ⟨k + 1, hlt, hlm, (eq_step dT hlt hlm he).2 h, by omega, wrap_small (by omega) (by omega)⟩⟩, fun hge => ?_⟩⟩⟩
      rw [drop_end (by omega), drop_end (l := m) (by omega)] at he
      exact he.2 rfl)
    have h2 : SoundC Try.prog (K_eqTerm (n + 1)).1 (K_eqTerm (n + 1)).2 := sound_of hm (CtxOK.nil.and (K := K_eqTermS (n + 1)) h1) (fun _ => []) (by kernel_rfl) fun (x : TP × TP) hl => cast (vc_eqTerm (n + 1) x.1.1 x.1.2 x.2.1 x.2.2) (by
      obtain ⟨⟨a, b⟩, c, d⟩ := x
      obtain ⟨hl, hn⟩ : SmT (.mk a b) ∧ manyL b < n + 1 := hl
      simp [-List.getD_eq_getElem?_getD, -List.mem_cons, -Bool.forall_bool, -Bool.exists_bool, and_assoc, peta, tl_inj, ex_1, ex_2, ex_3, ex_4, ex_5, ex_6, ex_7, ex_8, ex_9, ey_2, ey_3, ey_4, ey_5, ey_6, ey_7, ey_8, ey_9]
      exact ⟨fun h e => absurd e h, fun _ => ⟨hl.kids, hn, fun h _ => h, fun h => ⟨‹_›, h⟩⟩⟩)
    exact ⟨h1, h2⟩
theorem k_szT : SoundC Try.prog K_szT.1 K_szT.2 := SoundC.fam (fun x => manyL x.1.2) fun n => (k_szTerms n).2
theorem k_eqT : SoundC Try.prog K_eqT.1 K_eqT.2 := SoundC.fam (fun x => manyL x.1.2) fun n => (k_eqTerms n).2
end Cg

/-
  The codes' contracts: the sorts of terms. No condition.
-/
set_option linter.unusedVariables false
set_option linter.unusedSimpArgs false
set_option maxRecDepth 100000
set_option maxHeartbeats 1000000
namespace Pl
open Go Cg
end Pl
namespace Cg
open Go Go.Proofs Pl

end Cg

/-
  The codes' contracts: atoms, formulas, explanations, cases: sizes, copies, equality. No condition.
-/
set_option linter.unusedVariables false
set_option linter.unusedSimpArgs false
set_option maxRecDepth 100000
set_option maxHeartbeats 1000000
namespace Cg
open Go Go.Proofs Pl
section
variable {α : Type} {f : α → Nat}
theorem SmTrs.mem {l : List (Tree α)} (h : SmTrs f l) {t : Tree α} (ht : t ∈ l) : SmTr f t := by
  have := costTr_mem (f := f) ht
  have h1 : l.length + costTrs f l ≤ 1048576 := h
  show costTr f t ≤ 1048576
  omega
theorem SmTrs.len {l : List (Tree α)} (h : SmTrs f l) : l.length ≤ 1048576 := by
  have h1 : l.length + costTrs f l ≤ 1048576 := h
  omega
theorem SmTr.kids {v : α} {ks : List (Tree α)} (h : SmTr f (.mk v ks)) : SmTrs f ks := by
  have h1 : costTr f (.mk v ks) ≤ 1048576 := h
  rw [costTr_eq] at h1
  simp only [Tree.val, Tree.kids] at h1
  show ks.length + costTrs f ks ≤ 1048576
  omega
theorem SmTr.here {v : α} {ks : List (Tree α)} (h : SmTr f (.mk v ks)) : f v ≤ 1048576 := by
  have h1 : costTr f (.mk v ks) ≤ 1048576 := h
  rw [costTr_eq] at h1
  simp only [Tree.val, Tree.kids] at h1
  omega
end
theorem SmA.parts {x : Atm} (h : SmA x) : SmT (.mk x.2.1.1 x.2.1.2) ∧ SmT (.mk x.2.2.1.1 x.2.2.1.2) ∧ SmTs x.2.2.2.1 ∧ x.2.2.2.2.1.length ≤ 1048576 := by
  have h1 : costA x ≤ 1048576 := h
  unfold costA at h1
  refine ⟨?_, ?_, ?_, by omega⟩
  · show costT _ ≤ _; omega
  · show costT _ ≤ _; omega
  · show _ + _ ≤ _; omega

theorem k_szWhys (n : Nat) : SoundC Try.prog (K_szWhyS_ n).1 (K_szWhyS_ n).2 ∧ SoundC Try.prog (K_szWhy_ n).1 (K_szWhy_ n).2 := by
  induction n with
  | zero => exact ⟨sound_of hm CtxOK.nil (fun _ => []) (by kernel_rfl) fun x h => absurd h.2 (Nat.not_lt_zero _), sound_of hm CtxOK.nil (fun _ => []) (by kernel_rfl) fun x h => absurd h.2 (Nat.not_lt_zero _)⟩
  | succ n ih =>
    have h1 : SoundC Try.prog (K_szWhyS_ (n + 1)).1 (K_szWhyS_ (n + 1)).2 := sound_of hm (CtxOK.nil.and (K := K_szWhy_ n) ih.2) (fun x => A_szWhyS x.1 x.2) (by kernel_rfl) fun (x : List Wy × Int) hl => (by
      have hn : manyL x.1 < n + 1 := hl.2
      replace hl := hl.1
      rw [← vc_szWhyS_ n x]
      obtain ⟨⟨h1, h2⟩, h3, h4⟩ : (Ml x.1 ∧ ∀ t ∈ x.1, _) ∧ Fu x.2 := hl
      obtain ⟨l, k⟩ := x
      dsimp only at *
      rw [wrap_small (x := k - (l.length : Int)) (by omega) (by omega)]
      simp [-List.getD_eq_getElem?_getD, -List.mem_cons, -Bool.forall_bool, -Bool.exists_bool, and_assoc, peta, tl_inj, ex_1, ex_2, ex_3, ex_4, ex_5, ex_6, ex_7, ex_8, ex_9, ey_2, ey_3, ey_4, ey_5, ey_6, ey_7, ey_8, ey_9]
      refine ⟨fun h => (lim_of_neg (by omega)).symm, fun h => ⟨⟨0, by simp, by simp [costTrs]; omega, by simp [costTrs], rfl⟩, fun i hi hk => ⟨fun hlt => ?_, fun hge => ?_⟩⟩⟩
      · have ht := costTrs_take (f := costPW) dW hlt
        have hle := costTrs_take_le (f := costPW) l (i + 1)
        refine ⟨hlt, h2 _ (getD_mem dW hlt), hk, by omega, by have := many_kids (getD_mem dW hlt); omega, fun h5 => ?_, fun h5 => ?_⟩
        · exact (lim_of_neg (by have := (lim_neg h5).1; omega)).symm
        · obtain ⟨h6, h7⟩ := lim_nonneg h5
          exact ⟨i + 1, hlt, by omega, by omega, by rw [h7, ht]; omega, wrap_small (by omega) (by omega)⟩
      · rw [List.take_of_length_le hge] at hk ⊢
        exact (lim_of_nonneg (by omega)).symm.trans (by congr 1; omega))
    have h2 : SoundC Try.prog (K_szWhy_ (n + 1)).1 (K_szWhy_ (n + 1)).2 := sound_of hm ((CtxOK.nil.and (K := K_szWhyS_ (n + 1)) h1).and k_szT) (fun _ => []) (by kernel_rfl) fun (x : WP × Int) hl => (by
      have hn : manyL x.1.2 < n + 1 := hl.2
      replace hl := hl.1
      rw [← vc_szWhy_ (n + 1) x]
      obtain ⟨m, h3, h4⟩ : MlW (.mk x.1.1 x.1.2) ∧ Fu x.2 := hl
      obtain ⟨⟨⟨r1, n1, T1⟩, ks⟩, k⟩ := x
      obtain ⟨m1, m2⟩ := m.here
      have m3 : ∀ t ∈ ks, MlW t := fun t ht => m.kid ht
      dsimp only [Tree.val, Tree.kids] at *
      simp [-List.getD_eq_getElem?_getD, -List.mem_cons, -Bool.forall_bool, -Bool.exists_bool, and_assoc, peta, tl_inj, ex_1, ex_2, ex_3, ex_4, ex_5, ex_6, ex_7, ex_8, ex_9, ey_2, ey_3, ey_4, ey_5, ey_6, ey_7, ey_8, ey_9]
      have e : k - (costTr costPW (.mk (r1, n1, T1) ks) : Int) = k - costT (.mk T1.1 T1.2) - (ks.length + costTrs costPW ks) := by rw [costTr_eq]; simp only [Tree.val, Tree.kids, costPW]; omega
      rw [e]
      have neg : ∀ y : Int, y < 0 → k - costT (.mk T1.1 T1.2) - (ks.length + costTrs costPW ks) ≤ y → (-1 : Int) = lim (k - costT (.mk T1.1 T1.2) - (ks.length + costTrs costPW ks)) := fun y h h' => (lim_of_neg (by omega)).symm
      refine ⟨m1, h3, h4, fun h => neg _ (lim_neg h).1 (by omega), fun h => ?_⟩
      obtain ⟨p0, e0⟩ := lim_nonneg h
      rw [e0]
      exact ⟨m2, m3, p0, by omega, hn, fun h => (lim_neg h).2.symm, fun _ => rfl⟩)
    exact ⟨h1, h2⟩

theorem k_eqWhys (n : Nat) : SoundC Try.prog (K_eqWhyS_ n).1 (K_eqWhyS_ n).2 ∧ SoundC Try.prog (K_eqWhy_ n).1 (K_eqWhy_ n).2 := by
  induction n with
  | zero => exact ⟨sound_of hm CtxOK.nil (fun _ => []) (by kernel_rfl) fun x h => absurd h.2 (Nat.not_lt_zero _), sound_of hm CtxOK.nil (fun _ => []) (by kernel_rfl) fun x h => absurd h.2 (Nat.not_lt_zero _)⟩
  | succ n ih =>
    have h1 : SoundC Try.prog (K_eqWhyS_ (n + 1)).1 (K_eqWhyS_ (n + 1)).2 := sound_of hm (CtxOK.nil.and (K := K_eqWhy_ n) ih.2) (fun x => A_eqWhyS x.1 x.2) (by kernel_rfl) fun (x : List Wy × List Wy) hl => (by
      have hn : manyL x.1 < n + 1 := hl.2
      replace hl := hl.1
      rw [← vc_eqWhyS_ n x]
      have hl : SmTrs costPW x.1 := hl
      obtain ⟨l, m⟩ := x
      dsimp only at *
      simp [-List.getD_eq_getElem?_getD, -List.mem_cons, -Bool.forall_bool, -Bool.exists_bool, and_assoc, peta, tl_inj, ex_1, ex_2, ex_3, ex_4, ex_5, ex_6, ex_7, ex_8, ex_9, ey_2, ey_3, ey_4, ey_5, ey_6, ey_7, ey_8, ey_9]
      have hlen := hl.len
      simp only [tpart]
      refine ⟨fun h e => h (by rw [e]), fun h => ⟨⟨0, by simp; omega⟩, fun k hk hlm he => ⟨fun hlt => ⟨hlt, by omega, hl.mem (getD_mem dW hlt), by have := many_kids (getD_mem dW hlt); omega, (eq_step dW hlt hlm he).1, fun h => ⟨k + 1, hlt, hlm, (eq_step dW hlt hlm he).2 h, by omega, wrap_small (by omega) (by omega)⟩⟩, fun hge => ?_⟩⟩⟩
      rw [drop_end (by omega), drop_end (l := m) (by omega)] at he
      exact he.2 rfl)
    have h2 : SoundC Try.prog (K_eqWhy_ (n + 1)).1 (K_eqWhy_ (n + 1)).2 := sound_of hm ((CtxOK.nil.and (K := K_eqWhyS_ (n + 1)) h1).and k_eqT) (fun _ => []) (by kernel_rfl) fun (x : WP × WP) hl => (by
      have hn : manyL x.1.2 < n + 1 := hl.2
      replace hl := hl.1
      rw [← vc_eqWhy_ (n + 1) x]
      have hl : SmTr costPW (.mk x.1.1 x.1.2) := hl
      obtain ⟨⟨⟨r1, n1, T1⟩, ks⟩, ⟨r2, n2, T2⟩, ks'⟩ := x
      have sT : costT (Tree.mk T1.fst T1.snd) ≤ 1048576 := hl.here
      dsimp only at *
      have sk := hl.kids
      have sv := hl.here

      simp [-List.getD_eq_getElem?_getD, -List.mem_cons, -Bool.forall_bool, -Bool.exists_bool, and_assoc, peta, tl_inj, ex_1, ex_2, ex_3, ex_4, ex_5, ex_6, ex_7, ex_8, ex_9, ey_2, ey_3, ey_4, ey_5, ey_6, ey_7, ey_8, ey_9]
      repeat' (first | apply And.intro | intro _)
      all_goals first | contradiction | assumption | omega | (simp_all; done))
    exact ⟨h1, h2⟩

theorem k_szWhy : SoundC Try.prog K_szWhy.1 K_szWhy.2 := SoundC.fam (fun x => manyL x.1.2) fun n => (k_szWhys n).2
theorem k_eqWhy : SoundC Try.prog K_eqWhy.1 K_eqWhy.2 := SoundC.fam (fun x => manyL x.1.2) fun n => (k_eqWhys n).2
end Cg

/-
  A callee that is handed what the caller owned, for good. No condition.
-/
set_option linter.unusedVariables false
namespace Cg
open Go
/-- A callee that is handed what the caller owned, for good. -/
theorem SoundE.give {P : Program} {f : FuncId} {X : Type} {enc : X → List AV} {pre : X → Prop} {res : X → AV} (hs : ∀ x : X, pre x → PureAt P f (enc x) (res x)) (hm : ∀ x k, ment k (res x) = false)
    {X' : Type} (g : X' → X) (fr : X' → List AV) (Hs : X' → List AObj) (hv : ∀ x, ∃ q, viewL (view2 (Hs x)) (fr x) = (q, enc (g x)) ∧ ∀ p ∈ q, p) :
    SoundE P f X' (fun x => ⟨fr x, Hs x⟩) (fun x => pre (g x)) Unit (fun _ _ => True) fun x _ => (res (g x), (Hs x).map fun _ => .dead) := by
  intro x hp S μ w vals hok hrel
  obtain ⟨q, hq, hq'⟩ := hv x
  have hok : HOK S μ w (Hs x) := hok
  have hrel : RelL S μ w (fr x) vals := hrel
  have hva := view_args hok (by rw [hq]; exact hq') hrel
  rw [hq] at hva
  refine (hs (g x) hp (Lent S μ (Hs x)) w vals (lent_lt hok) (hok.gl.mono (fun _ h => .inl h) fun _ _ => rfl) hva).mono fun en w' he => ?_
  obtain ⟨y, S', rfl, h1, h2, h3, h4, h5⟩ := he
  have hdead : ∀ (o : Nat) (z : AObj), ((Hs x).map fun _ => AObj.dead)[o]? = some z → z = .dead := fun o z hz => by
    rw [List.getElem?_map] at hz
    cases hh : (Hs x)[o]? with
    | none => rw [hh] at hz; cases hz
    | some u => rw [hh] at hz; exact (Option.some.inj hz).symm
  have hno : ∀ o b, ¬ Own μ ((Hs x).map fun _ => AObj.dead) o b := fun o b ⟨z, hz, hb⟩ => by
    rw [hdead o z hz] at hb; exact hb
  refine ⟨y, (), S', μ, rfl, trivial, ?_, Rel_mono (fun _ h => h) (fun _ _ => rfl) _ _ (fun k hk => by rw [hm] at hk; cases hk) h5⟩
  exact {
    sub := fun b hb => h2 b (.inl hb)
    new := fun b hb => by
      rcases h3 b hb with (h | h) | h
      · exact .inl h
      · exact .inr (.inr h)
      · exact .inr (.inl h)
    mu := fun o ho => rfl
    len := by simp
    kept := ⟨h1.os, h1.tape, h1.output, h1.size, fun b hb _ => h1.block b hb⟩
    mine := fun o b h => absurd h (hno o b)
    hok := {
      obj := fun o z ho => by rw [hdead o z ho]; trivial
      ids := fun o cs ho => by cases hdead o _ ho
      seps := fun o o' b _ h => absurd h (hno o b)
      owns := fun o b h => absurd h (hno o b)
      inS := h4
      gl := hok.gl.mono (fun b hb => h2 b (.inl hb)) fun b hb => h1.block b (hok.inS b hb) } }
end Cg

/-
  The codes' contracts: explanations that are marked, and the law that their uses are exact. No condition.
-/
set_option linter.unusedVariables false
set_option linter.unusedSimpArgs false
set_option maxRecDepth 100000
namespace Cg
open Go Go.Proofs Pl
theorem k_markAtWT : SoundC Try.prog K_markAtWT.1 K_markAtWT.2 := by
  have base : SoundE Try.prog Nm.laws_markTermS MtX (fun x => ⟨.osl 0 0 x.1.length :: [i64 x.2], [.xarr x.1.length 2 (cT x.1)]⟩) (fun x => MtOk x.1 x.2) Unit (fun _ _ => True)
      fun x _ => (i64 (x.2 + manyL x.1), [.xarr x.1.length 2 (cT (mkTs x.2 x.1))]) := fun x hp S μ w vals hok hrel => by
    refine (k_markTs.2 x hp S μ w vals hok hrel).mono fun e w' ⟨v, y, S', μ', h1, h2, h3, h4⟩ => ⟨v, y, S', μ', h1, h2, ?_, h4⟩
    have h3' : Evo S μ [xrT x.1] w S' μ' [xrT (mkTs x.2 x.1)] w' := h3
    have e : xrT (mkTs x.2 x.1) = AObj.xarr x.1.length 2 (cT (mkTs x.2 x.1)) := by
      show AObj.xarr (mkTs x.2 x.1).length 2 _ = _
      rw [mkTs_len]
      rfl
    rw [e] at h3'
    exact h3'
  have at' := SoundE.atX base (fun _ => rfl) (fun _ _ => rfl) (X' := MwA) (fun x => ((x.1.getD x.2.1 dW).val.2.2.2, x.2.2)) (fun x => x.1.length) (fun _ => 5) (fun x => x.2.1) (fun _ => 3) (fun x => cW x.1)
  refine ⟨k_markTs.1, fun x hp S μ w vals hok hrel => ?_⟩
  refine (at' x ⟨hp.1, hp.2, by omega, IsX_terms⟩ S μ w vals hok hrel).mono fun e w' ⟨v, y, S', μ', h1, h2, h3, h4⟩ => ⟨v, y, S', μ', h1, trivial, ?_, h4⟩
  obtain ⟨l, i, k⟩ := x
  have hi : i < l.length := hp.2
  generalize hy : (Tree.mk ((l.getD i dW).val.1, (l.getD i dW).val.2.1, (l.getD i dW).val.2.2.1, mkTs k (l.getD i dW).val.2.2.2) (l.getD i dW).kids : Wy) = y'
  have q := Evo.xarrX (c' := cW (l.set i y')) h3 fun i' hi' j hj => by
    show IsX (fillX (cW l) i 3 (.sl (l.getD i dW).val.2.2.2.length 2 (cT (mkTs k (l.getD i dW).val.2.2.2))) i' j) (eW ((l.set i y').getD i' dW) j)
    by_cases e : i' = i
    · subst e
      rw [get_setW hi, ← hy]
      match j, hj with
      | 0, _ => rw [fillX_ne (fun h => by cases h.2)]; exact IsX_sc _
      | 1, _ => rw [fillX_ne (fun h => by cases h.2)]; exact IsX_sc _
      | 2, _ => rw [fillX_ne (fun h => by cases h.2)]; exact IsX_sc _
      | 3, _ =>
        rw [fillX_at]
        exact IsX_slT (mkTs k (l.getD i' dW).val.2.2.2) (mkTs_len _ _).symm rfl (fun _ _ _ _ => rfl) fun _ _ _ _ => rfl
      | 4, _ =>
        rw [fillX_ne (fun h => by cases h.2)]
        exact IsX_slW (l.getD i' dW).kids rfl rfl (fun a ha b hb => subW_get ha hb) fun a ha b hb => subW_get (t := .mk ((l.getD i' dW).val.1, (l.getD i' dW).val.2.1, (l.getD i' dW).val.2.2.1, mkTs k (l.getD i' dW).val.2.2.2) (l.getD i' dW).kids) ha hb
    · rw [fillX_ne (fun h => e h.1), get_setW_ne e]
      exact IsX_eW _ j hj
  have e : xrW (l.set i y') = .xarr l.length 5 (cW (l.set i y')) := by
    show AObj.xarr (l.set i _).length 5 _ = _
    rw [List.length_set]
    rfl
  show Evo S μ [xrW l] w S' μ' [xrW (l.set i (.mk ((l.getD i dW).val.1, (l.getD i dW).val.2.1, (l.getD i dW).val.2.2.1, mkTs k (l.getD i dW).val.2.2.2) (l.getD i dW).kids))] w'
  rw [hy, e]
  exact q
theorem k_markAtW (n : Nat) (h : SoundC Try.prog (K_markWhyS n).1 (K_markWhyS n).2) : SoundC Try.prog (K_markAtW n).1 (K_markAtW n).2 := by
  have base : SoundE Try.prog Nm.laws_markWhyS MwX (fun x => ⟨.osl 0 0 x.1.length :: [i64 x.2], [.xarr x.1.length 5 (cW x.1)]⟩) (fun x => MwOk x.1 x.2 ∧ manyL x.1 < n) Unit (fun _ _ => True)
      fun x _ => (i64 (x.2 + wns x.1), [.xarr x.1.length 5 (cW (mkWs x.2 x.1))]) := fun x hp S μ w vals hok hrel => by
    refine (h.2 x hp S μ w vals hok hrel).mono fun e w' ⟨v, y, S', μ', h1, h2, h3, h4⟩ => ⟨v, y, S', μ', h1, h2, ?_, h4⟩
    have h3' : Evo S μ [xrW x.1] w S' μ' [xrW (mkWs x.2 x.1)] w' := h3
    have e : xrW (mkWs x.2 x.1) = AObj.xarr x.1.length 5 (cW (mkWs x.2 x.1)) := by
      show AObj.xarr (mkWs x.2 x.1).length 5 _ = _
      rw [mkWs_len]
      rfl
    rw [e] at h3'
    exact h3'
  have at' := SoundE.atX base (fun _ => rfl) (fun _ _ => rfl) (X' := MwA) (fun x => ((x.1.getD x.2.1 dW).kids, x.2.2)) (fun x => x.1.length) (fun _ => 5) (fun x => x.2.1) (fun _ => 4) (fun x => cW x.1)
  refine ⟨h.1, fun x hp S μ w vals hok hrel => ?_⟩
  have hx : IsX (cW x.1 x.2.1 4) (.sl (x.1.getD x.2.1 dW).kids.length 5 (cW (x.1.getD x.2.1 dW).kids)) := IsX_slW (x.1.getD x.2.1 dW).kids rfl rfl (fun i hi j hj => subW_get hi hj) fun i hi j hj => rfl
  refine (at' x ⟨hp.1, hp.2, by omega, hx⟩ S μ w vals hok hrel).mono fun e w' ⟨v, y, S', μ', h1, h2, h3, h4⟩ => ⟨v, y, S', μ', h1, trivial, ?_, h4⟩
  obtain ⟨l, i, k⟩ := x
  have hi : i < l.length := hp.2
  generalize hy : (Tree.mk (l.getD i dW).val (mkWs k (l.getD i dW).kids) : Wy) = y'
  have q := Evo.xarrX (c' := cW (l.set i y')) h3 fun i' hi' j hj => by
    show IsX (fillX (cW l) i 4 (.sl (l.getD i dW).kids.length 5 (cW (mkWs k (l.getD i dW).kids))) i' j) (eW ((l.set i y').getD i' dW) j)
    by_cases e : i' = i
    · subst e
      rw [get_setW hi, ← hy]
      match j, hj with
      | 0, _ => rw [fillX_ne (fun h => by cases h.2)]; exact IsX_sc _
      | 1, _ => rw [fillX_ne (fun h => by cases h.2)]; exact IsX_sc _
      | 2, _ => rw [fillX_ne (fun h => by cases h.2)]; exact IsX_sc _
      | 3, _ => rw [fillX_ne (fun h => by cases h.2)]; exact IsX_terms
      | 4, _ =>
        rw [fillX_at]
        exact IsX_slW (mkWs k (l.getD i' dW).kids) (mkWs_len _ _).symm rfl (fun _ _ _ _ => rfl) fun a ha b hb => subW_get (t := .mk (l.getD i' dW).val (mkWs k (l.getD i' dW).kids)) ha hb
    · rw [fillX_ne (fun h => e h.1), get_setW_ne e]
      exact IsX_eW _ j hj
  have e : xrW (l.set i y') = .xarr l.length 5 (cW (l.set i y')) := by
    show AObj.xarr (l.set i _).length 5 _ = _
    rw [List.length_set]
    rfl
  show Evo S μ [xrW l] w S' μ' [xrW (l.set i (.mk (l.getD i dW).val (mkWs k (l.getD i dW).kids)))] w'
  rw [hy, e]
  exact q
theorem k_iWhyUsesL : SoundC Try.prog K_iWhyUsesL.1 K_iWhyUsesL.2 := ⟨k_iWhyUsesO.1, SoundE.lend k_iWhyUsesO.2 (fun x y z hz => by
    have e := List.mem_singleton.1 hz
    subst e
    exact fun i hi j hj => plainI_v _) (fun x y S S' μ w v hr => hr) (fun x y => rfl) id (fun x => [whyO x]) (fun x => objsW x) (fun x => ⟨_, rfl, by simp⟩)⟩
theorem k_sWhyUsesG : SoundC Try.prog K_sWhyUsesG.1 K_sWhyUsesG.2 := ⟨k_sWhyUses.1, SoundE.give k_sWhyUses.2 (fun x k => rfl) (id : WP → WP) (fun x => [whyO x]) (fun x => objsW x) (fun x => ⟨_, rfl, by simp⟩)⟩
theorem putW {m : List Wy} {x n : Nat} {a b : Int} {t : ByteArray} (hx : x < m.length) (hn : n = m.length) :
    IsO (AObj.xarr n 5 fun (i' j' : Nat) => bif Nat.ble 2 j' && j'.blt 3 && i'.beq x then [st t].getD (j' - 2) AV.any else storeD (fun (i' j' : Nat) => bif j'.blt 1 && i'.beq x then [i64 a].getD j' AV.any else eW (m.getD i' dW) j') x 1 [i64 b] i' j')
      (xrW (m.set x (.mk (a, b, t, (m.getD x dW).val.2.2.2) (m.getD x dW).kids))) := by
  subst hn
  refine ⟨rfl, by rw [List.length_set], fun i hi j hj => ?_⟩
  show IsX (bif Nat.ble 2 j && j.blt 3 && i.beq x then [st t].getD (j - 2) AV.any else storeD (fun (i' j' : Nat) => bif j'.blt 1 && i'.beq x then [i64 a].getD j' AV.any else eW (m.getD i' dW) j') x 1 [i64 b] i j) (eW ((m.set x (.mk (a, b, t, (m.getD x dW).val.2.2.2) (m.getD x dW).kids)).getD i dW) j)
  have hc : (bif Nat.ble 2 j && j.blt 3 && i.beq x then [st t].getD (j - 2) AV.any else storeD (fun (i' j' : Nat) => bif j'.blt 1 && i'.beq x then [i64 a].getD j' AV.any else eW (m.getD i' dW) j') x 1 [i64 b] i j) = (match j with | 0 => (bif Nat.beq i x then i64 a else eW (m.getD i dW) 0) | 1 => (bif Nat.beq i x then i64 b else eW (m.getD i dW) 1) | 2 => (bif Nat.beq i x then st t else eW (m.getD i dW) 2) | 3 => eW (m.getD i dW) 3 | _ => eW (m.getD i dW) 4) := by
    match j, hj with
    | 0, _ => rfl
    | 1, _ => rfl
    | 2, _ => rfl
    | 3, _ => rfl
    | 4, _ => rfl
  rw [hc]
  by_cases hix : i = x
  · subst hix
    rw [get_setW hx]
    have hb : Nat.beq i i = true := beq_iff.2 rfl
    match j, hj with
    | 0, _ => show IsX (bif Nat.beq i i then i64 a else _) _; rw [hb]; exact IsX_sc _
    | 1, _ => show IsX (bif Nat.beq i i then i64 b else _) _; rw [hb]; exact IsX_sc _
    | 2, _ => show IsX (bif Nat.beq i i then st t else _) _; rw [hb]; exact IsX_sc _
    | 3, _ => exact IsX_terms
    | 4, _ => exact IsX_slW (m.getD i dW).kids rfl rfl (fun a ha b hb => subW_get ha hb) fun a' ha b' hb => subW_get (t := .mk (a, b, t, (m.getD i dW).val.2.2.2) (m.getD i dW).kids) ha hb
  · rw [get_setW_ne hix]
    have e : Nat.beq i x = false := by cases h : Nat.beq i x with | false => rfl | true => exact absurd (beq_iff.1 h) hix
    match j, hj with
    | 0, _ => show IsX (bif Nat.beq i x then _ else _) _; rw [e]; exact IsX_eW _ 0 (by decide)
    | 1, _ => show IsX (bif Nat.beq i x then _ else _) _; rw [e]; exact IsX_eW _ 1 (by decide)
    | 2, _ => show IsX (bif Nat.beq i x then _ else _) _; rw [e]; exact IsX_eW _ 2 (by decide)
    | 3, _ => exact IsX_eW _ 3 (by decide)
    | 4, _ => exact IsX_eW _ 4 (by decide)
set_option maxHeartbeats 8000000 in
theorem g_markWhyS (n : Nat) (l : List Wy) (k : Int) (h1 : MwOk l k) (h2 : manyL l < n + 1) : GoalW Try.prog [K_markText, K_markAtWT, K_markAtW n] (A_markWhyS l k) (K_markWhyS (n + 1)).1 (K_markWhyS (n + 1)).2 ((l, k)) := GoalW.of (vc_markWhyS n l k) (by
  simp (maxSteps := 2000000) [-List.getD_eq_getElem?_getD, -List.mem_cons, -Bool.forall_bool, -Bool.exists_bool, and_assoc, peta, tl_inj, ex_1, ex_2, ex_3, ex_4, ex_5, ex_6, ex_7, ex_8, ex_9, ey_2, ey_3, ey_4, ey_5, ey_6, ey_7, ey_8, ey_9]
  obtain ⟨m1, k1, k2⟩ := h1
  have m1 : l.length + costTrs costPW l ≤ 1048576 := m1
  refine ⟨⟨0, Nat.zero_le _, by simp [wns], rfl, xrW_eq (by simp [mkWs])⟩, fun x hx => ⟨fun hlt => ?_, fun hge => ?_⟩⟩
  · have e1 := midW_get k hlt
    have e3 := wns_take hlt
    have e4 := wns_le (l := l) (x + 1)
    have e5 := wn_eq (l.getD x dW)
    have hM := midW_len k (Nat.le_of_lt hlt)
    have eS := midW_set k hlt
    have c1 := costTr_mem (f := costPW) (getD_mem dW hlt)
    have c2 := many_mem (getD_mem dW hlt)
    have c3 := (l.getD x dW).many_eq
    have c4 := costTr_eq (f := costPW) (l.getD x dW)
    have c5 : manyL (l.getD x dW).val.2.2.2 ≤ costPW (l.getD x dW).val := manyT_cost _
    rw [wrap_small (x := k + (wns (l.take x) : Int) + 1) (by omega) (by omega), wrap_small (x := k + (wns (l.take x) : Int) + 1 + 1) (by omega) (by omega), wrap_small (x := k + (wns (l.take x) : Int) + 1 + 1 + 1) (by omega) (by omega)]
    generalize mkWs k (l.take x) ++ l.drop x = M at *
    generalize hkx : k + (wns (l.take x) : Int) = kx at *
    have hxM : x < M.length := by omega
    refine ⟨hlt, by omega, hlt, by omega, by omega, by omega, hlt, by omega, hlt, by omega, M.set x (.mk (kx, kx + 1, mtext (kx + 1 + 1), (M.getD x dW).val.2.2.2) (M.getD x dW).kids), ?_⟩
    rw [get_setW hxM]
    simp only [Tree.kids_mk, Tree.val_mk]
    refine ⟨by rw [e1]; omega, by omega, by rw [e1]; omega, by rw [List.length_set]; omega, trivial, putW hxM (by omega), hlt, by rw [List.length_set]; omega, M.set x (.mk (kx, kx + 1, mtext (kx + 1 + 1), mkTs (kx + 1 + 1 + 1) (M.getD x dW).val.2.2.2) (M.getD x dW).kids), ?_⟩
    rw [get_setW hxM, List.set_set, get_setW hxM]
    simp only [Tree.kids_mk, Tree.val_mk]
    rw [List.set_set, e1]
    refine ⟨by omega, by omega, by omega, by omega, by rw [List.length_set]; omega, trivial, xrW_self, x + 1, hlt, by omega, by omega, by rw [wrap_small (by omega) (by omega)]; omega, xrW_eq ?_⟩
    rw [eS, mkW_eq, show kx + 1 + 1 = kx + 2 by omega, show kx + 2 + 1 = kx + 3 by omega]
  · rw [List.take_of_length_le hge, List.drop_eq_nil_of_le hge, List.append_nil]
    exact ⟨rfl, xrW_self⟩)
theorem k_markWhyS (n : Nat) : SoundC Try.prog (K_markWhyS n).1 (K_markWhyS n).2 := by
  induction n with
  | zero => exact sound_of hm CtxOK.nil (fun _ => []) (by kernel_rfl) fun x h => absurd h.2 (Nat.not_lt_zero _)
  | succ n ih => exact sound_ofW hm (((CtxOK.nil.and (K := K_markAtW n) (k_markAtW n ih)).and k_markAtWT).and k_markText) (fun ((l, k) : MwX) => A_markWhyS l k) (by kernel_rfl) fun ((l, k) : MwX) hb => g_markWhyS n l k hb.1 hb.2
theorem k_markWs : SoundC Try.prog K_markWs.1 K_markWs.2 := SoundC.famE (fun x : MwX => manyL x.1) fun n => k_markWhyS n
set_option maxHeartbeats 8000000 in
theorem g_markWhy (x : WP) (k : Int) (h1 : MtOk x.1.2.2.2 k ∧ MwOk x.2 (k + manyL x.1.2.2.2)) : GoalW Try.prog [K_markTerm, K_markWs] ([]) (K_markWhy).1 (K_markWhy).2 ((x, k)) := GoalW.of (vc_markWhy x k) (by
  simp (maxSteps := 2000000) [-List.getD_eq_getElem?_getD, -List.mem_cons, -Bool.forall_bool, -Bool.exists_bool, and_assoc, peta, tl_inj, ex_1, ex_2, ex_3, ex_4, ex_5, ex_6, ex_7, ex_8, ex_9, ey_2, ey_3, ey_4, ey_5, ey_6, ey_7, ey_8, ey_9]
  obtain ⟨⟨m1, k1, k2⟩, m2, k3, k4⟩ := h1
  exact ⟨_, x.1.2.2.2, m1, k1, k2, rfl, rfl, xrT_self, x.2, m2, k3, k4, rfl, xrW_self, rfl, xrT_self, xrW_self⟩)
theorem k_markWhy : SoundC Try.prog K_markWhy.1 K_markWhy.2 := sound_ofW hm ((CtxOK.nil.and k_markWs).and k_markTerm) (fun ((x, k) : WP × Int) => []) (by kernel_rfl) fun ((x, k) : WP × Int) hb => g_markWhy x k hb
set_option maxHeartbeats 8000000 in
theorem g_xWhyUses (x : WP) (h1 : MlW (.mk x.1 x.2)) : GoalW Try.prog [K_szWhy, K_sWhyUsesG, K_toWO, K_iWhyUsesL, K_eqIntS, K_eqWhy, K_markWhy, K_markIntS, K_heldIntS] ([]) (K_xWhyUses).1 (K_xWhyUses).2 (x) := GoalW.of (vc_xWhyUses x) (by
  simp (maxSteps := 2000000) [-List.getD_eq_getElem?_getD, -List.mem_cons, -Bool.forall_bool, -Bool.exists_bool, and_assoc, peta, tl_inj, ex_1, ex_2, ex_3, ex_4, ex_5, ex_6, ex_7, ex_8, ex_9, ey_2, ey_3, ey_4, ey_5, ey_6, ey_7, ey_8, ey_9]
  refine ⟨h1, fun hs => ?_⟩
  have s1 : costTr costPW (.mk x.1 x.2) ≤ 1048576 := by
    by_cases h : costTr costPW (.mk x.1 x.2) ≤ 1048576
    · exact h
    · unfold lim at hs; rw [if_pos (by omega)] at hs; omega
  have hc := costTr_eq (f := costPW) (.mk x.1 x.2)
  simp only [Tree.kids_mk, Tree.val_mk] at hc
  have t1 := manyT_cost x.1
  have t2 := wns_cost x.2
  have s2 : x.2.length + costTrs costPW x.2 ≤ 1048576 := by omega
  have hl := usesP_len s1
  have hsl := sortI_len (usesP x)
  have hcl := compact_len (sortI (usesP x))
  have same := wu_same x
  have hu : wuI x = compactL (sortI (usesP x)) := rfl
  rw [← hu] at hcl
  have hex : ((x.1.1, x.1.2.1, x.1.2.2.1, x.1.2.2.2), x.2) = x := rfl
  generalize hR : List.replicate ((sortI (usesP x)).length - (wuI x).length) (0 : Int) = R
  have hW : Is (AV.sl (wuI x).length 1 (cI (wuI x ++ R))) (ints (wuI x)) := (ints_take (l := wuI x ++ R) (m := wuI x) (n := (wuI x).length) (by simp)).2 (by simp)
  have hM : Is (AV.sl (wuI x).length 1 (cI (seqI 1 (wuI x).length ++ R))) (ints (seqI 1 (wuI x).length)) := (ints_take (l := seqI 1 (wuI x).length ++ R) (m := seqI 1 (wuI x).length) (n := (wuI x).length) (by simp)).2 (by rw [List.take_append_of_le_length (by simp)]; exact List.take_of_length_le (by simp))
  have hu4 : (wuI x).length ≤ 4294967296 := by omega
  have hm4 : (seqI 1 (wuI x).length).length ≤ 4294967296 := by rw [seqI_len]; exact hu4
  have hH : heldI (seqI 1 (wuI x).length) 1 = 1 + ((wuI x).length : Int) := by unfold heldI; rw [seqI_len, if_pos rfl]
  have hH0 : 0 ≤ heldI (seqI 1 (wuI x).length) 1 := by omega
  have hT : Is (AV.sl x.1.2.2.2.length 2 (cT x.1.2.2.2)) (terms x.1.2.2.2) := (Enc.terms x.1.2.2.2 x.1.2.2.2).2 rfl
  have hY : Is (AV.sl x.2.length 5 (cW x.2)) (whys x.2) := (Enc.whys x.2 x.2).2 rfl
  refine ⟨s1, x.1.1, x.1.2.1, x.1.2.2.1, x.1.2.2.2, x.2, s1, rfl, rfl, rfl, rfl, rfl, xrT_self, xrW_self, s1, x.1.1, x.1.2.1, x.1.2.2.1, x.1.2.2.2, x.2, s1, rfl, rfl, rfl, rfl, rfl, xrT_self, xrW_self, ?_⟩
  rw [hex, hR]
  refine ⟨wuI x, hW, hu4, same, fun _ => ⟨s1, Nat.le_refl _, Nat.le_refl _, hT, hY, s1, x.1.1, x.1.2.1, x.1.2.2.1, x.1.2.2.2, by omega, x.2, 1, Int.le_refl _, by omega, s2, by omega, by omega, rfl, rfl, rfl, rfl, rfl, rfl, xrT_self, xrW_self, by omega, fun _ => ⟨wuI x, hW, hu4, same, fun _ => ⟨wuI x, hu4, rfl, R, .inr rfl, by omega, seqI 1 (wuI x).length, hM, hm4, hH0, fun _ => ⟨hH, fun _ => ⟨s1, x.1.1, x.1.2.1, x.1.2.2.1, x.1.2.2.2, x.2, s1, rfl, rfl, rfl, rfl, rfl, xrT_self, xrW_self, ?_⟩⟩⟩⟩⟩⟩
  rw [hex, hR]
  exact ⟨wuI x, hW, hu4, same, fun _ => ⟨by omega, seqI 1 (wuI x).length, hM, hm4, hH0, fun _ => hH⟩⟩)
theorem k_xWhyUses : SoundC Try.prog K_xWhyUses.1 K_xWhyUses.2 := sound_ofW hm (((((((((CtxOK.nil.and k_heldIntS).and k_markIntS).and k_markWhy).and k_eqWhy).and k_eqIntS).and k_iWhyUsesL).and k_toWO).and k_sWhyUsesG).and k_szWhy) (fun (x : WP) => []) (by kernel_rfl) fun (x : WP) hb => g_xWhyUses x hb
end Cg

/-
  Data that are trees, as they are handed to a law. No condition.
-/
set_option linter.unusedVariables false
set_option linter.unusedSimpArgs false
namespace Cg
open Go Pl
section
variable {H : Type} {P : Program} {enc : TypeId × Value → H} {w : World} {S : Nat → Prop}

theorem Opens.tree {α γ : Type} {k : Nat} {f : Tree α → Nat → AV} {t tk : TypeId} {fs : Array Field} (d : Tree α) (ht : P.underlying t = some (.struct fs)) (hk : P.underlying tk = some (.slice t)) (hS : ∀ b, b < w.heap.size → S b)
    (hc : consec P 0 fs.toList = true) (hl : P.cellsOf t = cellsF P fs.toList) (hcs : P.cellsOf t = k) (hpos : 0 < k) {Ok : Tree α → Prop} {okg : γ → Prop} {cg : γ → List AV} {c : Tree α → List AV} (mkT : γ → Tree α)
    (hf : ∀ x j, j < k → (c x).getD j .any = f x j) (hok : ∀ g, okg g → Ok (mkT g)) (hcell : ∀ g ys, okg g → RelIL S w (cg g) ys → RelIL S w (c (mkT g)) ys)
    (step : ∀ n, Opens P enc w S n tk (fun l : List (Tree α) => l.length ≤ maxLen ∧ ∀ x ∈ l, Ok x) (fun l => [.sl l.length k fun i j => f (l.getD i d) j]) → OpensF P enc w S n 0 fs.toList okg cg) (n : Nat) :
    Opens P enc w S n t Ok c ∧ Opens P enc w S n tk (fun l : List (Tree α) => l.length ≤ maxLen ∧ ∀ x ∈ l, Ok x) (fun l => [.sl l.length k fun i j => f (l.getD i d) j]) := by
  induction n with
  | zero => exact ⟨Opens.zero, Opens.zero⟩
  | succ n ih =>
    refine ⟨fun cs x hx => ?_, ?_⟩
    · obtain ⟨g, h1, h2⟩ := Opens.struct ht hc hl (step n ih.2) cs x hx
      exact ⟨mkT g, hok g h1, hcell g cs h1 h2⟩
    · exact (Opens.slice hk hS ih.1 (by omega)).weaken fun l y _ ⟨z, r, h1, h2, h3⟩ => ⟨z, r, h1, by
        rw [hcs] at h2
        refine RelI_sl_congr (fun i hi j hj => ?_) h2
        rw [List.getElem?_eq_getElem hi, ← hf _ _ hj]
        simp [hi], h3⟩

theorem cells_tp (a : ByteArray) (b : List Tm) {ys : List Value} (h : RelIL S w ([st a] ++ [terms b]) ys) : RelIL S w [st a, kidsT (.mk a b)] ys := by
  obtain ⟨y, r, e1, h1, y', r', e2, h2, e3⟩ := h
  refine ⟨y, r, e1, h1, y', r', e2, ?_, e3⟩
  exact RelI_sl_congr (fun i hi j hj => by rw [eT_tr _ j hj]; exact (subTr_get dT (Tree.mk a b) i hi j).symm) h2

/-- A term's fields, by what its kids read as. -/
theorem OpensF.term {f0 f1 : Field} {t : TypeId} (h0 : P.underlying f0.type = some .string) (n : Nat)
    (h1 : Opens P enc w S n f1.type (fun l : List Tm => l.length ≤ maxLen ∧ ∀ x ∈ l, MlT x) (fun l => [terms l])) :
    OpensF P enc w S n 0 [f0, f1] (fun x : TP => x.1.size ≤ maxLen ∧ x.2.length ≤ maxLen ∧ ∀ u ∈ x.2, MlT u) (fun x => [st x.1] ++ [terms x.2]) :=
  OpensF.cons (OpensA.string h0 n) (OpensF.one h1)

theorem Opens.terms {t tk : TypeId} {f0 f1 : Field} (ht : P.underlying t = some (.struct #[f0, f1])) (h0 : P.underlying f0.type = some .string) (h1 : f1.type = tk) (hk : P.underlying tk = some (.slice t)) (hS : ∀ b, b < w.heap.size → S b)
    (hc : consec P 0 [f0, f1] = true) (hl : P.cellsOf t = cellsF P [f0, f1]) (hcs : P.cellsOf t = 2) (n : Nat) :
    Opens P enc w S n t MlT (fun t => [st t.val, kidsT t]) ∧ Opens P enc w S n tk (fun l : List Tm => l.length ≤ maxLen ∧ ∀ x ∈ l, MlT x) (fun l => [Cg.terms l]) :=
  Opens.tree (f := eT) (k := 2) dT ht hk hS hc hl hcs (by decide) (mkT := fun x : TP => .mk x.1 x.2) (Ok := MlT)
    (fun x j hj => by match j, hj with
      | 0, _ => rfl
      | 1, _ => rfl)
    (fun g hg => AllT.mk ⟨hg.1, hg.2.1⟩ hg.2.2) (fun g ys _ h => cells_tp g.1 g.2 h)
    (fun n h => OpensF.term h0 n (t := t) (by rw [h1]; exact h)) n

/-- A term that is handed to a law. -/
theorem OpensA.term {t tk : TypeId} {f0 f1 : Field} (ht : P.underlying t = some (.struct #[f0, f1])) (h0 : P.underlying f0.type = some .string) (h1 : f1.type = tk) (hk : P.underlying tk = some (.slice t)) (hS : ∀ b, b < w.heap.size → S b)
    (hc : consec P 0 [f0, f1] = true) (hl : P.cellsOf t = cellsF P [f0, f1]) (hcs : P.cellsOf t = 2) : OpensA P enc w S t (fun x : TP => x.1.size ≤ maxLen ∧ x.2.length ≤ maxLen ∧ ∀ u ∈ x.2, MlT u) (fun x => [st x.1] ++ [Cg.terms x.2]) :=
  OpensA.struct ht hc hl fun n => OpensF.term h0 n (t := t) (by rw [h1]; exact (Opens.terms ht h0 h1 hk hS hc hl hcs n).2)
theorem OpensA.terms {t tk : TypeId} {f0 f1 : Field} (ht : P.underlying t = some (.struct #[f0, f1])) (h0 : P.underlying f0.type = some .string) (h1 : f1.type = tk) (hk : P.underlying tk = some (.slice t)) (hS : ∀ b, b < w.heap.size → S b)
    (hc : consec P 0 [f0, f1] = true) (hl : P.cellsOf t = cellsF P [f0, f1]) (hcs : P.cellsOf t = 2) : OpensA P enc w S tk (fun l : List Tm => l.length ≤ maxLen ∧ ∀ x ∈ l, MlT x) (fun l => [Cg.terms l]) :=
  fun n => (Opens.terms ht h0 h1 hk hS hc hl hcs n).2
theorem MlT.of {x : TP} (h : x.1.size ≤ maxLen ∧ x.2.length ≤ maxLen ∧ ∀ u ∈ x.2, MlT u) : MlT (.mk x.1 x.2) := AllT.mk ⟨h.1, h.2.1⟩ h.2.2
end
end Cg

/-
  Atoms, formulas, explanations, cases, as they are handed to a law. No condition.
-/
set_option linter.unusedVariables false
set_option linter.unusedSimpArgs false
namespace Cg
open Go Pl
section
variable {H : Type} {P : Program} {enc : TypeId × Value → H} {w : World} {S : Nat → Prop}

theorem RelIL_last {a b : AV} (h : ∀ y, RelI S w a y → RelI S w b y) : ∀ {qs : List AV} {ys : List Value}, RelIL S w (qs ++ [a]) ys → RelIL S w (qs ++ [b]) ys
  | [], ys, ⟨y, r, e, h1, h2⟩ => ⟨y, r, e, h y h1, h2⟩
  | c :: qs, ys, ⟨y, r, e, h1, h2⟩ => ⟨y, r, e, h1, RelIL_last h h2⟩
theorem kids_cell {α : Type} {k : Nat} {e : α → Nat → AV} {f : Tree α → Nat → AV} (d : Tree α) (hf : ∀ t j, j < k + 1 → f t j = eTr k e t j) (v : α) (ks : List (Tree α)) (y : Value) (h : RelI S w (.sl ks.length (k + 1) fun i j => f (ks.getD i d) j) y) : RelI S w (.sl ks.length (k + 1) (subTr k e (.mk v ks))) y :=
  RelI_sl_congr (fun i hi j hj => by rw [hf _ j hj]; exact (subTr_get d (Tree.mk v ks) i hi j).symm) h

theorem OpensF.conv {n off : Nat} {fs : List Field} {α : Type} {ok ok' : α → Prop} {c c' : α → List AV} (h : OpensF P enc w S n off fs ok c) (h1 : ∀ x, ok x → ok' x) (h2 : ∀ x, c x = c' x) : OpensF P enc w S n off fs ok' c' := fun hc cs hl hf => by
  obtain ⟨a, ha, ra⟩ := h hc cs hl hf
  exact ⟨a, h1 a ha, by rw [← h2 a]; exact ra⟩

abbrev OkT (x : TP) : Prop := x.1.size ≤ maxLen ∧ x.2.length ≤ maxLen ∧ ∀ u ∈ x.2, MlT u
abbrev OkI (x : Int) : Prop := (Lit.int .i64 x).wf = true
abbrev OkTs (l : List Tm) : Prop := l.length ≤ maxLen ∧ ∀ x ∈ l, MlT x
abbrev OkIs (l : List Int) : Prop := l.length ≤ maxLen ∧ ∀ x ∈ l, OkI x
abbrev OkAt (x : Atm) : Prop := OkI x.1 ∧ OkT x.2.1 ∧ OkT x.2.2.1 ∧ OkTs x.2.2.2.1 ∧ OkIs x.2.2.2.2.1 ∧ OkI x.2.2.2.2.2.1 ∧ True
theorem MlA.of {x : Atm} (h : OkAt x) : MlA x := ⟨MlT.of h.2.1, MlT.of h.2.2.1, ⟨h.2.2.2.1.1, h.2.2.2.1.2⟩, h.2.2.2.2.1.1⟩

abbrev GF := Int × Ltr × List Frm
abbrev OkF (g : GF) : Prop := OkI g.1 ∧ (OkAt g.2.1.1 ∧ True) ∧ (g.2.2.length ≤ maxLen ∧ ∀ x ∈ g.2.2, MlF x)
theorem MlF.of {g : GF} (h : OkF g) : MlF (.mk (g.1, g.2.1) g.2.2) := AllTr.mk ⟨MlA.of h.2.1.1, h.2.2.1⟩ h.2.2.2
abbrev GW := Int × Int × TP × List Wy
abbrev OkW (g : GW) : Prop := OkI g.1 ∧ OkI g.2.1 ∧ OkT g.2.2.1 ∧ (g.2.2.2.length ≤ maxLen ∧ ∀ x ∈ g.2.2.2, MlW x)
theorem MlW.of {g : GW} (h : OkW g) : MlW (.mk (g.1, g.2.1, g.2.2.1) g.2.2.2) := AllTr.mk ⟨MlT.of h.2.2.1, h.2.2.2.1⟩ h.2.2.2.2
theorem OpensA.why {t tk : TypeId} {fs : Array Field} (ht : P.underlying t = some (.struct fs)) (hk : P.underlying tk = some (.slice t)) (hS : ∀ b, b < w.heap.size → S b)
    (hc : consec P 0 fs.toList = true) (hl : P.cellsOf t = cellsF P fs.toList) (hcs : P.cellsOf t = 5)
    (step : ∀ n, Opens P enc w S n tk (fun l : List Wy => l.length ≤ maxLen ∧ ∀ x ∈ l, MlW x) (fun l => [whys l]) → OpensF P enc w S n 0 fs.toList OkW (fun g : GW => [i64 g.1, i64 g.2.1, st g.2.2.1.1, Cg.terms g.2.2.1.2] ++ [whys g.2.2.2])) :
    OpensA P enc w S t OkW (fun g : GW => [i64 g.1, i64 g.2.1, st g.2.2.1.1, Cg.terms g.2.2.1.2] ++ [whys g.2.2.2]) :=
  OpensA.struct ht hc hl fun n => step n (Opens.tree (f := eW) (k := 5) (c := fun t => [i64 t.val.1, i64 t.val.2.1, st t.val.2.2.1, Cg.terms t.val.2.2.2] ++ [kidsW t]) dW ht hk hS hc hl hcs (by decide)
    (mkT := fun g : GW => .mk (g.1, g.2.1, g.2.2.1) g.2.2.2) (Ok := MlW)
    (fun x j hj => by match j, hj with
      | 0, _ => rfl
      | 1, _ => rfl
      | 2, _ => rfl
      | 3, _ => rfl
      | 4, _ => rfl)
    (fun g hg => MlW.of hg) (fun g ys _ h => by
      exact RelIL_last (fun y hy => kids_cell dW (fun t j hj => eW_tr t j hj) (g.1, g.2.1, g.2.2.1) g.2.2.2 y hy) h) step n).2

abbrev GC := Int × Int × GW × List Int × TP × TP × List Cse
abbrev OkC (g : GC) : Prop := OkI g.1 ∧ OkI g.2.1 ∧ OkW g.2.2.1 ∧ OkIs g.2.2.2.1 ∧ OkT g.2.2.2.2.1 ∧ OkT g.2.2.2.2.2.1 ∧ (g.2.2.2.2.2.2.length ≤ maxLen ∧ ∀ x ∈ g.2.2.2.2.2.2, MlC x)
abbrev GC.pc (g : GC) : PC := (g.1, g.2.1, ((g.2.2.1.1, g.2.2.1.2.1, g.2.2.1.2.2.1), g.2.2.1.2.2.2), g.2.2.2.1, g.2.2.2.2.1, g.2.2.2.2.2.1)
theorem MlC.of {g : GC} (h : OkC g) : MlC (.mk g.pc g.2.2.2.2.2.2) := AllTr.mk ⟨MlW.of h.2.2.1, h.2.2.2.1.1, MlT.of h.2.2.2.2.1, MlT.of h.2.2.2.2.2.1, h.2.2.2.2.2.2.1⟩ h.2.2.2.2.2.2.2
theorem OpensA.case {t tk : TypeId} {fs : Array Field} (ht : P.underlying t = some (.struct fs)) (hk : P.underlying tk = some (.slice t)) (hS : ∀ b, b < w.heap.size → S b)
    (hc : consec P 0 fs.toList = true) (hl : P.cellsOf t = cellsF P fs.toList) (hcs : P.cellsOf t = 13)
    (step : ∀ n, Opens P enc w S n tk (fun l : List Cse => l.length ≤ maxLen ∧ ∀ x ∈ l, MlC x) (fun l => [cases l]) → OpensF P enc w S n 0 fs.toList OkC (fun g : GC => [i64 g.1, i64 g.2.1, i64 g.2.2.1.1, i64 g.2.2.1.2.1, st g.2.2.1.2.2.1.1, Cg.terms g.2.2.1.2.2.1.2, whys g.2.2.1.2.2.2, ints g.2.2.2.1, st g.2.2.2.2.1.1, Cg.terms g.2.2.2.2.1.2, st g.2.2.2.2.2.1.1, Cg.terms g.2.2.2.2.2.1.2] ++ [cases g.2.2.2.2.2.2])) :
    OpensA P enc w S t OkC (fun g : GC => [i64 g.1, i64 g.2.1, i64 g.2.2.1.1, i64 g.2.2.1.2.1, st g.2.2.1.2.2.1.1, Cg.terms g.2.2.1.2.2.1.2, whys g.2.2.1.2.2.2, ints g.2.2.2.1, st g.2.2.2.2.1.1, Cg.terms g.2.2.2.2.1.2, st g.2.2.2.2.2.1.1, Cg.terms g.2.2.2.2.2.1.2] ++ [cases g.2.2.2.2.2.2]) :=
  OpensA.struct ht hc hl fun n => step n (Opens.tree (f := eC) (k := 13) (c := fun t => [i64 t.val.1, i64 t.val.2.1, i64 t.val.2.2.1.1.1, i64 t.val.2.2.1.1.2.1, st t.val.2.2.1.1.2.2.1, Cg.terms t.val.2.2.1.1.2.2.2, whys t.val.2.2.1.2, ints t.val.2.2.2.1, st t.val.2.2.2.2.1.1, Cg.terms t.val.2.2.2.2.1.2, st t.val.2.2.2.2.2.1, Cg.terms t.val.2.2.2.2.2.2] ++ [kidsC t]) dC ht hk hS hc hl hcs (by decide)
    (mkT := fun g : GC => .mk g.pc g.2.2.2.2.2.2) (Ok := MlC)
    (fun x j hj => by match j, hj with
      | 0, _ => rfl
      | 1, _ => rfl
      | 2, _ => rfl
      | 3, _ => rfl
      | 4, _ => rfl
      | 5, _ => rfl
      | 6, _ => rfl
      | 7, _ => rfl
      | 8, _ => rfl
      | 9, _ => rfl
      | 10, _ => rfl
      | 11, _ => rfl
      | 12, _ => rfl)
    (fun g hg => MlC.of hg) (fun g ys _ h => by
      exact RelIL_last (fun y hy => kids_cell dC (fun t j hj => eC_tr t j hj) g.pc g.2.2.2.2.2.2 y hy) h) step n).2
end
end Cg
