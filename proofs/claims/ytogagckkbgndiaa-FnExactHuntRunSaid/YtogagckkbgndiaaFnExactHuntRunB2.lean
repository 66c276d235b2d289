/-
  What the law leans on, part 2. No condition.
-/
import Derived.Test.YtogagckkbgndiaaProg
import Derived.Test.YtogagckkbgndiaaFnExactHuntRunB1
/-
  A row that the library has turned, as the abstract machine sees it; the sort and the compaction of lists of numbers. No condition.
-/
set_option linter.unusedVariables false
set_option linter.unusedSimpArgs false
namespace Cg
open Go Go.Proofs Go.Shelf
section
variable {S : Nat → Prop} {μ : Nat → OI} {w : World}
theorem live_one {x : AObj} {o : Nat} (h : LiveAt [x] o) : o = 0 := by
  cases o with
  | zero => rfl
  | succ o => simp [LiveAt] at h
theorem heap_turned (b base n : Nat) (d : Array Int) (os : Array Obj) (c : Nat) (hc : c < w.heap.size) :
    (Go.Sort.grow (Go.Sort.putRow (Value.int .i64) (Go.Sort.ahead w n) b base d) os).heap[c]? = if b = c then (w.heap[c]?).map (Go.Sort.onCells (Go.Sort.putCells (Value.int .i64) base d)) else w.heap[c]? := by
  show ((w.heap.modify b (Go.Sort.onCells (Go.Sort.putCells (Value.int .i64) base d))) ++ os)[c]? = _
  rw [Array.getElem?_append_left (by simpa using hc), Array.getElem?_modify]
theorem own_arI {d : List Int} {b : Nat} (h : Own μ [arI d] 0 b) : (μ 0).b = some b := by
  obtain ⟨x, h1, h2⟩ := h
  cases h1; exact h2
theorem row_turned {l d : List Int} {b : Nat} (hok : HOK S μ w [arI l]) (hb : (μ 0).b = some b) (hd : d.length = l.length) (n : Nat) (os : Array Obj) :
    Evo S μ [arI l] w S μ [arI d] (Go.Sort.grow (Go.Sort.putRow (Value.int .i64) (Go.Sort.ahead w n) b (μ 0).base d.toArray) os) := by
  obtain ⟨he, ho⟩ := hok.obj 0 _ rfl
  rw [hb] at ho
  obtain ⟨hn, c, T, hh, hsz, hcells⟩ := ho
  have hlt : b < w.heap.size := (hok.own 0 b (by simp [LiveAt, arI]) hb).2
  have hsize : w.heap.size ≤ (Go.Sort.grow (Go.Sort.putRow (Value.int .i64) (Go.Sort.ahead w n) b (μ 0).base d.toArray) os).heap.size := by
    show _ ≤ ((w.heap.modify b (Go.Sort.onCells (Go.Sort.putCells (Value.int .i64) (μ 0).base d.toArray))) ++ os).size
    simp
  refine ⟨fun _ h => h, fun _ h => .inl h, fun _ _ => rfl, Nat.le_refl _, ⟨rfl, rfl, rfl, hsize, fun k hk hnb => ?_⟩, fun o k hk => ?_, ?_⟩
  · rw [heap_turned _ _ _ _ _ _ hk, if_neg]
    intro e
    exact hnb ⟨0, _, rfl, by show (μ 0).b = some k; rw [hb, e]⟩
  · have := live_one hk.live
    subst this
    exact .inr ⟨0, _, rfl, own_arI hk⟩
  · refine ⟨fun o x ho => ?_, fun o cs ho => ?_, fun o o' k hne h1 h2 => ?_, fun o k hk => ?_, fun k hk => Nat.lt_of_lt_of_le (hok.inS k hk) hsize, hok.gl.mono (fun _ h => h) fun k hk => by
      rw [heap_turned _ _ _ _ _ _ (hok.inS k hk), if_neg]
      intro e
      subst e
      exact (hok.own 0 _ (by simp [LiveAt, arI]) hb).1 hk⟩
    · cases o with
      | succ o => simp at ho
      | zero =>
        simp only [List.getElem?_cons_zero, Option.some.injEq] at ho
        subst ho
        refine ⟨he, ?_⟩
        rw [hb]
        refine ⟨by show d.length ≤ _; rw [hd]; exact hn, Go.Sort.putCells (Value.int .i64) (μ 0).base d.toArray c, T, ?_, ?_, fun i hi j hj => ?_⟩
        · rw [heap_turned _ _ _ _ _ _ hlt, if_pos rfl, hh]; rfl
        · show _ ≤ (Array.mapIdx _ c).size
          rw [Array.size_mapIdx]; exact hsz
        · have hj0 : j = 0 := by omega
          subst hj0
          obtain ⟨x, h1, _⟩ := hcells i (by rw [← hd]; exact hi) 0 (by decide)
          have hi' : i < d.length := hi
          have hk : (μ 0).base + i * 1 + 0 < c.size := (Array.getElem?_eq_some_iff.1 h1).1
          refine ⟨.int .i64 (d.getD i 0), ?_, ?_⟩
          · show (Array.mapIdx _ c)[(μ 0).base + i * 1 + 0]? = _
            rw [Array.getElem?_mapIdx, h1]
            simp only [Option.map_some, Nat.mul_one, Nat.add_zero]
            rw [if_pos (by simp; omega)]
            simp [hi']
          · show RelI S _ (.v (.int .i64 (d.getD i 0))) _
            rw [RelI]; exact ⟨rfl, rfl⟩
    · cases o with
      | succ o => simp at ho
      | zero => simp [arI] at ho
    · exact absurd ((live_one h1.live).trans (live_one h2.live).symm) hne
    · have := live_one hk.live
      subst this
      have h3 := hok.own 0 k (by simp [LiveAt, arI]) (own_arI hk)
      exact ⟨h3.1, Nat.lt_of_lt_of_le h3.2 hsize⟩
theorem row_holds {l : List Int} {b : Nat} (hok : HOK S μ w [arI l]) (hb : (μ 0).b = some b) : Go.Sort.Holds (Value.int .i64) w b (μ 0).base l.toArray := fun j hj => by
  obtain ⟨he, ho⟩ := hok.obj 0 _ rfl
  rw [hb] at ho
  obtain ⟨hn, c, T, hh, hsz, hcells⟩ := ho
  have hj' : j < l.length := by simpa using hj
  obtain ⟨x, h1, h2⟩ := hcells j hj' 0 (by decide)
  have h2' : RelI S w (.v (.int .i64 (l.getD j 0))) x := h2
  rw [RelI] at h2'
  rw [h2'.1] at h1
  simp only [Nat.mul_one, Nat.add_zero] at h1
  constructor
  · simp only [World.cell?, hh, h1]
    simp [hj']
  · simp [World.frozen?, hh]
theorem Evo.same {H : List AObj} (hok : HOK S μ w H) : Evo S μ H w S μ H w :=
  ⟨fun _ h => h, fun _ h => .inl h, fun _ _ => rfl, Nat.le_refl _, Kept.refl _ _ _, fun o b hb => .inr ⟨o, hb⟩, hok⟩
end

theorem srt_abs (x : Int) : Srt.abs x = Pl.varI x := by
  have e : Go.RowKit.wrap64 (-x) = Pl.wneg x := by
    unfold Go.RowKit.wrap64 Pl.wneg
    simp only [IntKind.wrap, IntKind.signed, IntKind.bits]
    simp
    omega
  unfold Srt.abs Pl.varI
  rw [e]
theorem srt_lt (x y : Int) : Go.Proofs.ltOf (fun a b => Srt.cmp (Srt.abs a) (Srt.abs b)) x y = decide (Pl.varI x < Pl.varI y) := by
  show decide (Srt.cmp (Srt.abs x) (Srt.abs y) < 0) = _
  unfold Srt.cmp
  rw [srt_abs, srt_abs]
  split
  · rename_i h; simp [h]
  · rename_i h
    split <;> simp [h]
theorem srt_swo : Go.Sort.SWO (Go.Proofs.ltOf (fun a b => Srt.cmp (Srt.abs a) (Srt.abs b))) where
  irrefl x := by rw [srt_lt]; simp
  trans x y z h1 h2 := by rw [srt_lt] at *; simp only [decide_eq_true_eq] at *; omega
  ntrans x y z h1 h2 := by rw [srt_lt] at *; simp only [decide_eq_false_iff_not] at *; omega

theorem k_SortFunc : SoundC Try.prog K_SortFunc.1 K_SortFunc.2 := ⟨callable_of (by kernel_rfl), fun l hl S μ w vals hok hrel => by
  have hl' : l.length ≤ 4294967296 := hl
  obtain ⟨y0, r0, rfl, ha, y1, r1, rfl, hb, hc⟩ := hrel
  cases hc
  obtain ⟨vs, rfl, hvs⟩ := hb
  cases hvs
  have nil0 : ∀ (p : Option Addr) (cap : Nat), l = [] → y0 = .slice p 0 cap → Calls Try.prog K_SortFunc.1 [y0, .func (.func Nm.impl_ClauseOf_1) #[] #[]].toArray w (fun e w' => ∃ v y S' μ', e = .returned v ∧ (l.Perm y ∧ Pl.SortedV y) ∧ Evo S μ [arI l] w S' μ' [arI y] w' ∧ Rel S' μ' w' (.tup []) v) := fun p cap e0 e1 => by
    subst e1
    refine (AnyF.slices_SortFunc_none { Try.laysSF with } p cap (.func (.func Nm.impl_ClauseOf_1) #[] #[]) w).mono fun e w' ⟨he, hw⟩ => ?_
    subst hw
    refine ⟨_, l, S, μ, he, ⟨List.Perm.refl _, fun i j _ hj => by rw [e0] at hj; simp at hj⟩, Evo.same hok, ⟨[], rfl, rfl⟩⟩
  unfold Rel at ha
  cases hb : (μ 0).b with
  | none =>
    simp only [hb] at ha
    obtain ⟨_, h0, a, rfl⟩ := ha
    have e0 : l = [] := List.length_eq_zero_iff.1 h0
    exact nil0 a 0 e0 rfl
  | some b =>
    simp only [hb] at ha
    obtain ⟨hcap, a, rfl, haddr⟩ := ha
    by_cases h0 : l.length = 0
    · have e0 : l = [] := List.length_eq_zero_iff.1 h0
      exact nil0 (some a) _ e0 (by rw [h0])
    · have e1 : a = ⟨b, (μ 0).base, none⟩ := by
        rw [haddr (by omega)]; simp
      subst e1
      have hsz : l.toArray.size < 4611686018427387904 := by simp; omega
      have hlt : b < w.heap.size := (hok.own 0 b (by simp [LiveAt, arI]) hb).2
      have hcmp : CmpLays1 Try.prog Nm.impl_ClauseOf_1 #[] (Value.int .i64) (fun a b => Srt.cmp (Srt.abs a) (Srt.abs b)) b (μ 0).base l.toArray.size w := fun m os dk hs x y =>
        (Try.clausecmp_calls x y _).mono fun e w' ⟨he, hw⟩ => ⟨he, 0, #[], by rw [hw, Go.Sort.grow_empty]; rfl⟩
      have hcon := Any.slices_SortFunc Try.laysSF (Value.int .i64) (fun _ => rfl) (fun a b => Srt.cmp (Srt.abs a) (Srt.abs b)) srt_swo Nm.impl_ClauseOf_1 #[] b (μ 0).base ((μ 0).cap - 0) l.toArray w (enters_of Try.func70 (by kernel_rfl) rfl) hcmp (row_holds hok hb) hlt hsz
      have hcon' : Calls Try.prog K_SortFunc.1 [.slice (some ⟨b, (μ 0).base, none⟩) l.length ((μ 0).cap - 0), .func (.func Nm.impl_ClauseOf_1) #[] #[]].toArray w _ := hcon
      refine hcon'.mono fun e w' ⟨he, d', n, os, hp, hs, hw⟩ => ?_
      obtain ⟨hp1, _, hp3⟩ := hp
      have hdl : d'.toList.length = l.length := by simpa using hp1
      have hperm : l.Perm d'.toList := by
        have h3 : (d'.extract 0 l.length).toList.Perm (l.toArray.extract 0 l.length).toList := hp3
        have e1 : d'.extract 0 l.length = d' := by rw [← hdl]; simp
        have e2 : l.toArray.extract 0 l.length = l.toArray := by simp
        rw [e1, e2] at h3
        exact h3.symm
      refine ⟨_, d'.toList, S, μ, he, ⟨hperm, fun i j hij hj => ?_⟩, ?_, ⟨[], rfl, rfl⟩⟩
      · have h4 := hs i j (Nat.zero_le _) hij (by rw [hdl] at hj; simpa using hj)
        rw [srt_lt] at h4
        have hj' : j < d'.size := by simpa using hj
        have hi' : i < d'.size := by omega
        have e1 : d'.toList.getD j 0 = d'[j]! := by simp [hj']
        have e2 : d'.toList.getD i 0 = d'[i]! := by simp [hi']
        rw [e1, e2]
        simpa using h4
      · rw [hw]
        have h5 := row_turned (d := d'.toList) hok hb hdl n os
        rw [Array.toArray_toList] at h5
        exact h5⟩
theorem compactL_eq (l : List Int) : Go.Lib.compact l = Pl.compactL l := by
  unfold Go.Lib.compact Go.Lib.compactUpTo Pl.compactL Pl.compactN
  have e : ∀ k, l.toArray[k]! = l.getD k 0 := fun k => by
    by_cases h : k < l.length
    · simp [h]
    · simp [h]
  have e2 : Go.Lib.keeps l.toArray = Pl.keepsL l := by
    funext j
    unfold Go.Lib.keeps Pl.keepsL
    rw [e, e]
  rw [e2]
  congr 1
  funext j
  exact e j
theorem k_Compact : SoundC Try.prog K_Compact.1 K_Compact.2 := ⟨callable_of (by kernel_rfl), fun l hl S μ w vals hok hrel => by
  have hl' : l.length ≤ 4294967296 := hl
  obtain ⟨y0, r0, rfl, ha, hc⟩ := hrel
  cases hc
  have ha0 := ha
  have hle : (Pl.compactL l).length ≤ l.length := by
    unfold Pl.compactL Pl.compactN
    rw [List.length_map]
    exact Nat.le_trans (List.length_filter_le _ _) (by rw [List.length_range]; exact Nat.le_refl _)
  have nil0 : ∀ (p : Option Addr) (cap : Nat), l = [] → y0 = .slice p 0 cap → Calls Try.prog K_Compact.1 [y0].toArray w (fun e w' => ∃ v, ∃ y : Unit, ∃ S' μ', e = .returned v ∧ True ∧ Evo S μ [arI l] w S' μ' [arI (Pl.compactL l ++ List.replicate (l.length - (Pl.compactL l).length) 0)] w' ∧ Rel S' μ' w' (.osl 0 0 (Pl.compactL l).length) v) := fun p cap e0 e1 => by
    subst e1
    refine (Try.slices_Compact_int_empty p cap w).mono fun e w' ⟨he, hw⟩ => ?_
    subst hw
    subst e0
    exact ⟨_, (), S, μ, he, trivial, Evo.same hok, ha0⟩
  unfold Rel at ha
  cases hb : (μ 0).b with
  | none =>
    simp only [hb] at ha
    obtain ⟨_, h0, a, rfl⟩ := ha
    have e0 : l = [] := List.length_eq_zero_iff.1 h0
    exact nil0 a 0 e0 rfl
  | some b =>
    simp only [hb] at ha
    obtain ⟨hcap, a, rfl, haddr⟩ := ha
    by_cases h0 : l.length = 0
    · have e0 : l = [] := List.length_eq_zero_iff.1 h0
      exact nil0 (some a) _ e0 (by rw [h0])
    · have e1 : a = ⟨b, (μ 0).base, none⟩ := by
        rw [haddr (by omega)]; simp
      subst e1
      have hcon := Try.slices_Compact_int b (μ 0).base ((μ 0).cap - 0) l w (row_holds hok hb) (by omega) (by omega)
      refine Calls.mono hcon fun e w' ⟨he, q, hw⟩ => ?_
      rw [compactL_eq] at he hw
      refine ⟨_, (), S, μ, he, trivial, ?_, ?_⟩
      · have := row_turned (d := Pl.compactL l ++ List.replicate (l.length - (Pl.compactL l).length) 0) hok hb (by simp; omega) q #[]
        rw [Go.Sort.grow_empty] at this
        rw [hw]; exact this
      · unfold Rel
        simp only [hb]
        exact ⟨by omega, _, rfl, fun _ => by simp⟩⟩
end Cg

/-
  The codes' contracts: laws of drawn clause sets. No condition.
-/
set_option linter.unusedVariables false
set_option linter.unusedSimpArgs false
set_option maxRecDepth 100000
namespace Cg
open Go Go.Proofs

end Cg

/-
  Sorted lists of marks: plain laws. No condition.
-/
set_option linter.unusedVariables false
set_option linter.unusedSimpArgs false
namespace Pl
open Go Cg
/-- A mark. -/
abbrev Mrk (x : Int) : Prop := x ≠ 0 ∧ -60 ≤ x ∧ x ≤ 60
theorem wneg_mrk {x : Int} (h : Mrk x) : wneg x = -x := by
  unfold wneg; rw [Cg.wrap_small (by omega) (by omega)]; omega
theorem absW_mrk {x : Int} (h : Mrk x) : absW x = x.natAbs := by
  unfold absW
  rw [if_neg (by omega), if_neg (by omega)]
  split
  · rw [wneg_mrk h]; omega
  · omega
theorem varI_mrk {x : Int} (h : Mrk x) : varI x = x.natAbs := by
  unfold varI
  rw [wneg_mrk h]
  split <;> omega
theorem isMark60 (x : Int) : isMark x 60 = true ↔ Mrk x := by
  have e : wneg 60 = -60 := by decide
  unfold isMark withinI
  rw [e]
  simp only [Bool.and_eq_true, decide_eq_true_eq]
theorem badMark_iff (x : Int) : badMark x = false ↔ Mrk x := by
  unfold badMark absW
  simp only [Bool.or_eq_false_iff, decide_eq_false_iff_not]
  constructor
  · intro ⟨h1, h2⟩
    split at h2
    · omega
    · split at h2
      · omega
      · exact ⟨h1, by omega, by omega⟩
  · intro h
    refine ⟨h.1, ?_⟩
    rw [if_neg (by omega), if_neg (by omega)]
    split
    · rw [wneg_mrk h]; omega
    · omega
theorem fine_iff (l : List Int) (x : Int) : fineMark l x = true ↔ Mrk x ∧ -x ∉ l := by
  unfold fineMark
  rw [Bool.and_eq_true, isMark60]
  constructor
  · intro ⟨h1, h2⟩
    rw [wneg_mrk h1] at h2
    exact ⟨h1, by simpa using h2⟩
  · intro ⟨h1, h2⟩
    rw [wneg_mrk h1]
    exact ⟨h1, by simpa using h2⟩
abbrev Asc (l : List Int) : Prop := l.Pairwise fun x y => x.natAbs < y.natAbs
theorem putS_spec : ∀ {out : List Int} {x : Int}, Mrk x → (∀ y ∈ out, Mrk y) → Asc out →
    ((-x ∈ out → (putS out x).2 = false) ∧ (-x ∉ out → (putS out x).2 = true ∧ Asc (putS out x).1 ∧ ∀ z, z ∈ (putS out x).1 ↔ z = x ∨ z ∈ out))
  | [], x, hx, _, _ => ⟨fun h => (by cases h), fun _ => ⟨rfl, List.pairwise_singleton _ _, fun z => by simp [putS]⟩⟩
  | y :: out, x, hx, hm, ha => by
    have hy := hm y (List.mem_cons_self ..)
    have hm' : ∀ z ∈ out, Mrk z := fun z hz => hm z (List.mem_cons_of_mem _ hz)
    obtain ⟨ha1, ha2⟩ := List.pairwise_cons.1 ha
    have ih := putS_spec hx hm' ha2
    unfold putS
    rw [absW_mrk hx, absW_mrk hy]
    by_cases h1 : y.natAbs < x.natAbs
    · rw [if_pos (by omega)]
      simp only
      refine ⟨fun h => ih.1 ?_, fun h => ?_⟩
      · rcases List.mem_cons.1 h with e | e
        · omega
        · exact e
      · obtain ⟨i1, i2, i3⟩ := ih.2 (fun e => h (List.mem_cons_of_mem _ e))
        refine ⟨i1, List.pairwise_cons.2 ⟨fun z hz => ?_, i2⟩, fun z => ?_⟩
        · rcases (i3 z).1 hz with e | e
          · subst e; exact h1
          · exact ha1 z e
        · rw [List.mem_cons, i3, List.mem_cons]
          exact ⟨fun h => by rcases h with h | h | h <;> simp [h], fun h => by rcases h with h | h | h <;> simp [h]⟩
    · rw [if_neg (by omega)]
      by_cases h2 : y.natAbs = x.natAbs
      · rw [if_pos (by omega)]
        simp only
        refine ⟨fun h => decide_eq_false ?_, fun h => ?_⟩
        · intro e
          subst e
          rcases List.mem_cons.1 h with e | e
          · omega
          · have := ha1 _ e; omega
        · have e : y = x := by
            rcases Int.natAbs_eq_natAbs_iff.1 h2 with e | e
            · exact e
            · exact absurd (by rw [e]; exact List.mem_cons_self ..) h
          subst e
          exact ⟨decide_eq_true rfl, ha, fun z => by simp⟩
      · rw [if_neg (by omega)]
        simp only
        refine ⟨fun h => ?_, fun h => ⟨trivial, List.pairwise_cons.2 ⟨fun z hz => ?_, ha⟩, fun z => by simp⟩⟩
        · exfalso
          rcases List.mem_cons.1 h with e | e
          · omega
          · have := ha1 _ e; omega
        · rcases List.mem_cons.1 hz with e | e
          · subst e; omega
          · have := ha1 _ e; omega
theorem clauseL_spec : ∀ {l out : List Int}, (∀ x ∈ l, Mrk x) → (∀ y ∈ out, Mrk y) → Asc out → (∀ y ∈ out, -y ∉ out) →
    (((∃ x ∈ l, -x ∈ l ∨ -x ∈ out) → clauseL l out = ([], false)) ∧ ((∀ x ∈ l, -x ∉ l ∧ -x ∉ out) → (clauseL l out).2 = true ∧ Asc (clauseL l out).1 ∧ ∀ z, z ∈ (clauseL l out).1 ↔ z ∈ l ∨ z ∈ out))
  | [], out, _, _, ha, _ => ⟨fun ⟨x, hx, _⟩ => (by cases hx), fun _ => ⟨rfl, ha, fun z => by simp [clauseL]⟩⟩
  | x :: l, out, hl, ho, ha, hn => by
    have hx := hl x (List.mem_cons_self ..)
    have hl' : ∀ y ∈ l, Mrk y := fun y hy => hl y (List.mem_cons_of_mem _ hy)
    obtain ⟨p1, p2⟩ := putS_spec hx ho ha
    unfold clauseL
    by_cases hneg : -x ∈ out
    · rw [p1 hneg]
      exact ⟨fun _ => rfl, fun h => absurd hneg (h x (List.mem_cons_self ..)).2⟩
    · obtain ⟨q1, q2, q3⟩ := p2 hneg
      rw [q1, if_pos rfl]
      have hm : ∀ y ∈ (putS out x).1, Mrk y := fun y hy => by
        rcases (q3 y).1 hy with e | e
        · subst e; exact hx
        · exact ho y e
      have hn2 : ∀ y ∈ (putS out x).1, -y ∉ (putS out x).1 := fun y hy hy2 => by
        rcases (q3 y).1 hy with e | e
        · subst e
          rcases (q3 _).1 hy2 with e | e
          · have := hx.1; omega
          · exact hneg e
        · rcases (q3 _).1 hy2 with e2 | e2
          · exact hneg (by rw [← e2]; simpa using e)
          · exact hn y e e2
      obtain ⟨c1, c2⟩ := clauseL_spec hl' hm q2 hn2
      refine ⟨fun ⟨z, hz, hb⟩ => c1 ?_, fun h => ?_⟩
      · rcases List.mem_cons.1 hz with e | e
        · subst e
          rcases hb with hb | hb
          · rcases List.mem_cons.1 hb with e | e
            · have := hx.1; omega
            · exact ⟨-z, e, .inr ((q3 _).2 (.inl (by omega)))⟩
          · exact absurd hb hneg
        · rcases hb with hb | hb
          · rcases List.mem_cons.1 hb with e2 | e2
            · exact ⟨z, e, .inr ((q3 _).2 (.inl e2))⟩
            · exact ⟨z, e, .inl e2⟩
          · exact ⟨z, e, .inr ((q3 _).2 (.inr hb))⟩
      · obtain ⟨d1, d2, d3⟩ := c2 fun z hz => by
          have h1 := h z (List.mem_cons_of_mem _ hz)
          refine ⟨fun e => h1.1 (List.mem_cons_of_mem _ e), fun e => ?_⟩
          rcases (q3 _).1 e with e2 | e2
          · exact h1.1 (by rw [e2]; exact List.mem_cons_self ..)
          · exact h1.2 e2
        refine ⟨d1, d2, fun z => ?_⟩
        rw [d3, q3, List.mem_cons]
        exact ⟨fun h => by rcases h with h | h | h <;> simp [h], fun h => by rcases h with (h | h) | h <;> simp [h]⟩
theorem clauseOf_no {l : List Int} (h : l.all (fineMark l) = false) : clauseOf l = ([], false) := by
  unfold clauseOf
  split
  · rfl
  · rename_i hb
    have hm : ∀ x ∈ l, Mrk x := fun x hx => (badMark_iff x).1 (by
      have := List.any_eq_false.1 (by simpa using hb) x hx
      simpa using this)
    obtain ⟨x, hx, hf⟩ := List.all_eq_false.1 h
    refine (clauseL_spec hm (fun y hy => by cases hy) List.Pairwise.nil (fun y hy => by cases hy)).1 ⟨x, hx, .inl ?_⟩
    cases hc : decide (-x ∈ l) with
    | true => exact of_decide_eq_true hc
    | false => exact absurd ((fine_iff l x).2 ⟨hm x hx, of_decide_eq_false hc⟩) hf
theorem clauseOf_yes {l : List Int} (h : l.all (fineMark l) = true) : (clauseOf l).2 = true ∧ Asc (clauseOf l).1 ∧ ∀ z, z ∈ (clauseOf l).1 ↔ z ∈ l := by
  have hf : ∀ x ∈ l, Mrk x ∧ -x ∉ l := fun x hx => (fine_iff l x).1 (List.all_eq_true.1 h x hx)
  have hb : l.any badMark = false := List.any_eq_false.2 fun x hx => by rw [(badMark_iff x).2 (hf x hx).1]; simp
  have e : clauseOf l = clauseL l [] := by unfold clauseOf; rw [hb]; rfl
  rw [e]
  obtain ⟨d1, d2, d3⟩ := (clauseL_spec (fun x hx => (hf x hx).1) (fun y hy => by cases hy) List.Pairwise.nil (fun y hy => by cases hy) (l := l) (out := [])).2 fun x hx => ⟨(hf x hx).2, by simp⟩
  exact ⟨d1, d2, fun z => by rw [d3]; simp⟩
theorem asc_eq : ∀ {a b : List Int}, Asc a → Asc b → (∀ z, z ∈ a ↔ z ∈ b) → a = b
  | [], [], _, _, _ => rfl
  | [], y :: b, _, _, h => by have := (h y).2 (List.mem_cons_self ..); cases this
  | x :: a, [], _, _, h => by have := (h x).1 (List.mem_cons_self ..); cases this
  | x :: a, y :: b, ha, hb, h => by
    obtain ⟨a1, a2⟩ := List.pairwise_cons.1 ha
    obtain ⟨b1, b2⟩ := List.pairwise_cons.1 hb
    have e : x = y := by
      rcases List.mem_cons.1 ((h x).1 (List.mem_cons_self ..)) with e | e
      · exact e
      · rcases List.mem_cons.1 ((h y).2 (List.mem_cons_self ..)) with e2 | e2
        · exact e2.symm
        · have := a1 _ e2; have := b1 _ e; omega
    subst e
    congr 1
    refine asc_eq a2 b2 fun z => ⟨fun hz => ?_, fun hz => ?_⟩
    · rcases List.mem_cons.1 ((h z).1 (List.mem_cons_of_mem _ hz)) with e | e
      · subst e; have := a1 _ hz; omega
      · exact e
    · rcases List.mem_cons.1 ((h z).2 (List.mem_cons_of_mem _ hz)) with e | e
      · subst e; have := b1 _ hz; omega
      · exact e
theorem compactN_succ (l : List Int) (m : Nat) : compactN l (m + 1) = compactN l m ++ (if keepsL l m = true then [l.getD m 0] else []) := by
  unfold compactN
  rw [List.range_succ, List.filter_append, List.map_append]
  congr 1
  cases h : keepsL l m <;> simp [h]
theorem compactN_spec {l : List Int} (hs : ∀ i j, i < j → j < l.length → (l.getD i 0).natAbs ≤ (l.getD j 0).natAbs) (hn : ∀ x ∈ l, ∀ y ∈ l, x.natAbs = y.natAbs → x = y) : ∀ m, m ≤ l.length → Asc (compactN l m) ∧ (∀ z, z ∈ compactN l m ↔ ∃ j, j < m ∧ l.getD j 0 = z)
  | 0, _ => ⟨List.Pairwise.nil, fun z => ⟨fun h => (by cases h), fun ⟨j, hj, _⟩ => by omega⟩⟩
  | m + 1, hm => by
    obtain ⟨i1, i2⟩ := compactN_spec hs hn m (by omega)
    rw [compactN_succ]
    by_cases hk : keepsL l m = true
    · rw [if_pos hk]
      refine ⟨List.pairwise_append.2 ⟨i1, List.pairwise_singleton _ _, fun x hx y hy => ?_⟩, fun z => ?_⟩
      · simp only [List.mem_singleton] at hy
        subst hy
        obtain ⟨j, hj, e⟩ := (i2 x).1 hx
        subst e
        unfold keepsL at hk
        have hk := of_decide_eq_true hk
        have h0 : m ≠ 0 := by omega
        have h1 : l.getD m 0 ≠ l.getD (m - 1) 0 := hk.resolve_left h0
        have h2 := hs (m - 1) m (by omega) (by omega)
        have h3 : (l.getD j 0).natAbs ≤ (l.getD (m - 1) 0).natAbs := by
          by_cases e : j = m - 1
          · rw [e]; exact Nat.le_refl _
          · exact hs j (m - 1) (by omega) (by omega)
        have h4 : (l.getD (m - 1) 0).natAbs ≠ (l.getD m 0).natAbs := fun e => h1 (hn _ (getD_mem 0 (by omega)) _ (getD_mem 0 (by omega)) e).symm
        omega
      · rw [List.mem_append, i2, List.mem_singleton]
        constructor
        · rintro (⟨j, hj, e⟩ | e)
          · exact ⟨j, by omega, e⟩
          · exact ⟨m, by omega, e.symm⟩
        · rintro ⟨j, hj, e⟩
          by_cases hjm : j = m
          · exact .inr (by rw [← e, hjm])
          · exact .inl ⟨j, by omega, e⟩
    · rw [if_neg hk, List.append_nil]
      refine ⟨i1, fun z => ?_⟩
      rw [i2]
      have hk := Bool.eq_false_iff.2 hk
      unfold keepsL at hk
      have hk := of_decide_eq_false hk
      have h0 : m ≠ 0 := fun e => hk (.inl e)
      have h1 : l.getD m 0 = l.getD (m - 1) 0 := Classical.byContradiction fun e => hk (.inr e)
      constructor
      · rintro ⟨j, hj, e⟩; exact ⟨j, by omega, e⟩
      · rintro ⟨j, hj, e⟩
        by_cases hjm : j = m
        · exact ⟨m - 1, by omega, by rw [← h1, ← hjm]; exact e⟩
        · exact ⟨j, by omega, e⟩
theorem sort_clause {l m : List Int} (h : l.all (fineMark l) = true) (hp : l.Perm m) (hs : SortedV m) : compactL m = (clauseOf l).1 := by
  obtain ⟨_, c2, c3⟩ := clauseOf_yes h
  have hf : ∀ x ∈ l, Mrk x ∧ -x ∉ l := fun x hx => (fine_iff l x).1 (List.all_eq_true.1 h x hx)
  have hm : ∀ x, x ∈ m ↔ x ∈ l := fun x => hp.mem_iff.symm
  have mk : ∀ i, i < m.length → Mrk (m.getD i 0) := fun i hi => (hf _ ((hm _).1 (getD_mem 0 hi))).1
  obtain ⟨d1, d2⟩ := compactN_spec (l := m) (fun i j hij hj => by
    have h1 := hs i j hij hj
    rw [varI_mrk (mk i (by omega)), varI_mrk (mk j hj)] at h1
    omega) (fun x hx y hy e => by
      rcases Int.natAbs_eq_natAbs_iff.1 e with e | e
      · exact e
      · exact absurd ((hm y).1 hy) (by have := (hf x ((hm x).1 hx)).2; rw [e] at this; simpa using this)) m.length (Nat.le_refl _)
  refine asc_eq d1 c2 fun z => ?_
  show z ∈ compactN m m.length ↔ _
  rw [d2, c3, ← hm]
  constructor
  · rintro ⟨j, hj, e⟩; rw [← e]; exact getD_mem 0 hj
  · intro hz
    obtain ⟨j, hj, e⟩ := List.getElem_of_mem hz
    exact ⟨j, hj, by simp [hj, e]⟩
end Pl

/-
  The codes' contracts: clauses made of lists. No condition.
-/
set_option linter.unusedVariables false
set_option linter.unusedSimpArgs false
set_option maxRecDepth 100000
namespace Cg
open Go Go.Proofs
end Cg

/-
  The codes' contracts: rows of numbers that are marked, and the law that clauses made of lists are exact. No condition.
-/
set_option linter.unusedVariables false
set_option linter.unusedSimpArgs false
set_option maxRecDepth 100000
namespace Cg
open Go Go.Proofs

theorem k_CloneO : SoundC Try.prog K_CloneO.1 K_CloneO.2 := sound_of hm CtxOK.nil (fun _ => []) (by kernel_rfl) fun (l : List Int) (hl : SzH l) => (by
  replace hl : l.length ≤ 2147483648 := hl
  rw [← vc_CloneO l]
  simp [-List.getD_eq_getElem?_getD, -List.mem_cons, -Bool.forall_bool, -Bool.exists_bool, and_assoc, peta, tl_inj, ex_1, ex_2, ex_3, ex_4, ex_5, ex_6, ex_7, ex_8, ex_9, ey_2, ey_3, ey_4, ey_5, ey_6, ey_7, ey_8, ey_9]
  exact fun b h => ⟨h, fun _ => by omega⟩)
theorem k_iClauseOfO : SoundC Try.prog K_iClauseOfO.1 K_iClauseOfO.2 := sound_of hm (((((CtxOK.nil.and k_Compact).and k_SortFunc).and k_CloneO).and k_Contains).and k_isMark) (fun l => A_iClauseOfO l) (by kernel_rfl) fun (l : List Int) hl => (by
  have hl' : l.length ≤ 1073741824 := hl
  rw [← vc_iClauseOfO l]
  simp [-List.getD_eq_getElem?_getD, -List.mem_cons, -Bool.forall_bool, -Bool.exists_bool, and_assoc, peta, tl_inj, ex_1, ex_2, ex_3, ex_4, ex_5, ex_6, ex_7, ex_8, ex_9, ey_2, ey_3, ey_4, ey_5, ey_6, ey_7, ey_8, ey_9]
  have no : l.all (Pl.fineMark l) = false → (Pl.clauseOf l).fst = [] ∧ (Pl.clauseOf l).snd = false ∧ (Pl.clauseOf l).fst = [] := fun h => by rw [Pl.clauseOf_no h]; exact ⟨rfl, rfl, rfl⟩
  refine ⟨⟨0, by omega, rfl, rfl⟩, fun k hk he => ⟨fun hlt => ?_, fun hge => ?_⟩⟩
  · rw [drop_get 0 hlt, List.all_cons] at he
    have nf : Pl.fineMark l (l.getD k 0) = false → l.all (Pl.fineMark l) = false := fun h => by rw [he, h]; rfl
    refine ⟨hlt, fun h => no (nf (by unfold Pl.fineMark; rw [h]; rfl)), fun h => ⟨by omega, fun g => no (nf ?_), fun g => ⟨k + 1, hlt, ?_, by omega, Cg.wrap_small (by omega) (by omega)⟩⟩⟩
    · unfold Pl.fineMark Pl.wneg
      rw [Int.zero_sub, h]
      simp only [Bool.true_and, Bool.not_eq_false', List.contains_iff_mem]
      exact g
    · have : Pl.fineMark l (l.getD k 0) = true := by
        unfold Pl.fineMark Pl.wneg
        rw [Int.zero_sub, h]
        simp only [Bool.true_and, Bool.not_eq_true']
        cases hc : l.contains (IntKind.i64.wrap (-l.getD k 0)) with
        | false => rfl
        | true => exact absurd (List.contains_iff_mem.1 hc) g
      rw [he, this]; rfl
  · rw [drop_end (by omega)] at he
    refine ⟨l, by omega, rfl, .inr rfl, l, by omega, rfl, .inr rfl, fun y hp hs => ?_⟩
    have hlen := hp.length_eq
    have e := Pl.sort_clause he hp hs
    exact ⟨y, by omega, hlen, .inr rfl, by rw [e], (Pl.clauseOf_yes he).1, .inr rfl, _, .inr (by rw [e])⟩)
end Cg

/-
  What is left to show of each function's code, printed by a program: Hunt. No condition.
-/
set_option maxRecDepth 100000
set_option linter.unusedVariables false
namespace Cg
open Go Go.Proofs
theorem vc_l11Free (c : Pl.Cnf) (put : List Int) : ((∃ x : Nat,
 ((↑x : Int) ≤ c.1 ∧ Pl.freeL put (Pl.marks c.1) = Pl.freeL put (List.drop x (Pl.marks c.1))) ∧ (Is (ints put) (ints put) ∧ (0 : Nat) = (0 : Nat) ∧ (1 : Int) = (↑x : Int) + (1 : Int) ∧ True) ∧ (c.1 = c.1 ∧ Is (intss c.2) (intss c.2) ∧ True) ∧ True) ∧ ∀ (x : Nat),
 (↑x : Int) ≤ c.1 ∧ Pl.freeL put (Pl.marks c.1) = Pl.freeL put (List.drop x (Pl.marks c.1)) →
 condP (decide ((↑x : Int) + (1 : Int) ≤ c.1))
 (∃ x_1 : List Int × Int,
 (Is (ints put) (ints x_1.1) ∧ (↑x : Int) + (1 : Int) = x_1.2 ∧ True) ∧ Sz x_1.1 ∧ condP (Pl.at_ x_1.2 x_1.1 == (0 : Int)) ((↑x : Int) + (1 : Int) = Pl.freeL put (Pl.marks c.1))
 (Exists fun (x' : Nat) =>
 ((↑x' : Int) ≤ c.1 ∧ Pl.freeL put (Pl.marks c.1) = Pl.freeL put (List.drop x' (Pl.marks c.1))) ∧ (c.1 - (↑x' : Int)).toNat < (c.1 - (↑x : Int)).toNat ∧ (Is (ints put) (ints put) ∧ (0 : Nat) = (0 : Nat) ∧ IntKind.i64.wrap ((↑x : Int) + (1 : Int) + (1 : Int)) = (↑x' : Int) + (1 : Int) ∧ True) ∧ (c.1 = c.1 ∧ Is (intss c.2) (intss c.2) ∧ True) ∧ True))
 ((0 : Int) = Pl.freeL put (Pl.marks c.1))) = Goal Try.prog [K_l10At] (A_l11Free c put) K_l11Free.1 K_l11Free.2 ((c, put)) := by kernel_rfl

theorem vc_l11Vals (c : Pl.Cnf) (put : List Int) : ((∃ x : Nat × List Bool,
 ((↑x.1 : Int) ≤ c.1 ∧ x.2.length = x.1 ∧ Pl.valsL put (Pl.marks c.1) = x.2 ++ Pl.valsL put (List.drop x.1 (Pl.marks c.1))) ∧ (Is (ints put) (ints put) ∧ (0 : Nat) = (0 : Nat) ∧ ((0 : Nat) = (0 : Nat) ∧ (0 : Nat) = (0 : Nat) ∧ x.2.length = (0 : Nat)) ∧ (1 : Int) = (↑x.1 : Int) + (1 : Int) ∧ True) ∧ (c.1 = c.1 ∧ Is (intss c.2) (intss c.2) ∧ True) ∧ x.2.length = (0 : Nat) ∧ True) ∧ ∀ (x : Nat × List Bool),
 (↑x.1 : Int) ≤ c.1 ∧ x.2.length = x.1 ∧ Pl.valsL put (Pl.marks c.1) = x.2 ++ Pl.valsL put (List.drop x.1 (Pl.marks c.1)) →
 condP (decide ((↑x.1 : Int) + (1 : Int) ≤ c.1))
 (∃ x_1 : List Int × Int,
 (Is (ints put) (ints x_1.1) ∧ (↑x.1 : Int) + (1 : Int) = x_1.2 ∧ True) ∧ Sz x_1.1 ∧ (0 : Nat) + x.2.length ≤ x.2.length ∧ (x.2.length + (1 : Nat)) * (1 : Nat) ≤ (70368744177664 : Nat) ∧ Exists fun (x' : Nat × List Bool) =>
 ((↑x'.1 : Int) ≤ c.1 ∧ x'.2.length = x'.1 ∧ Pl.valsL put (Pl.marks c.1) = x'.2 ++ Pl.valsL put (List.drop x'.1 (Pl.marks c.1))) ∧ (c.1 - (↑x'.1 : Int)).toNat < (c.1 - (↑x.1 : Int)).toNat ∧ (Is (ints put) (ints put) ∧ (0 : Nat) = (0 : Nat) ∧ ((0 : Nat) = (0 : Nat) ∧ x.2.length + (1 : Nat) = x'.2.length) ∧ IntKind.i64.wrap ((↑x.1 : Int) + (1 : Int) + (1 : Int)) = (↑x'.1 : Int) + (1 : Int) ∧ True) ∧ (c.1 = c.1 ∧ Is (intss c.2) (intss c.2) ∧ True) ∧ IsO (AObj.arr (x.2.length + (1 : Nat)) (1 : Nat) (joinC x.2.length (cB x.2) (rowsCell [[bl (Pl.at_ x_1.2 x_1.1 == (1 : Int))]])))
 (arB x'.2) ∧ True)
 ((0 : Nat) + x.2.length ≤ x.2.length ∧ Is (bools x.2) (bools (Pl.valsL put (Pl.marks c.1))))) = Goal Try.prog [K_l10At] (A_l11Vals c put) K_l11Vals.1 K_l11Vals.2 ((c, put)) := by kernel_rfl

theorem vc_l11Note (f : Int) (log : List (List Int)) (ds : List Int) : (∃ x : List Int,
 (Is (ints ds) (ints x) ∧ True) ∧ SzH x ∧ ∃ x_1 : List Int,
 (Is (ints (Pl.nots x)) (ints x_1) ∧ True) ∧ x_1.length ≤ (1073741824 : Nat) ∧ ((0 : Nat) = (0 : Nat) ∨ (0 : Nat) < log.length) ∧ ((0 : Nat) + log.length) * (24 : Nat) ≤ (70368744177664 : Nat) ∧ (0 : Nat) + ((0 : Nat) + log.length) ≤ (0 : Nat) + log.length ∧ ((0 : Nat) + log.length + (1 : Nat)) * (24 : Nat) ≤ (70368744177664 : Nat) ∧ (0 : Nat) + ((0 : Nat) + log.length + (1 : Nat)) ≤ (0 : Nat) + log.length + (1 : Nat) ∧ f = f ∧ Is
 (AV.sl ((0 : Nat) + log.length + (1 : Nat)) (1 : Nat) fun (i j : Nat) =>
 joinC ((0 : Nat) + log.length) (cII log) (rowsCell [[ints (Pl.clauseOf x_1).1]]) i j)
 (intss (log ++ [Pl.note ds])) ∧ True) = Goal Try.prog [K_l10Nots, K_sClauseOf] ([]) K_l11Note.1 K_l11Note.2 ((f, log, ds)) := by kernel_rfl

theorem vc_l11Find (n : Nat) (x : FX) : (condP (decide (x.2.1 < (1 : Int)))
 ((x.2.1 = x.2.1 - (↑(Pl.hunt x.1 x.2.2.2).1 : Int) ∧ Is (intss x.2.2.1) (intss (x.2.2.1 ++ (Pl.hunt x.1 x.2.2.2).2.1)) ∧ True) ∧ Is (AV.lit (0 : Nat) (1 : Nat) (rowsCell [])) (bools (Pl.hunt x.1 x.2.2.2).2.2.1) ∧ false = (Pl.hunt x.1 x.2.2.2).2.2.2 ∧ True)
 (∃ x_1 : Pl.Cnf × List Int,
 ((x.1.1 = x_1.1.1 ∧ Is (intss x.1.2) (intss x_1.1.2) ∧ True) ∧ Is (ints x.2.2.2) (ints x_1.2) ∧ True) ∧ (Pl.cnfOk x_1.1 = true ∧ SzC x_1.1 ∧ SzH x_1.2) ∧ condP (Pl.unitsS x_1.1.2 x_1.2).2
 (Exists fun (x_2 : Int × List (List Int) × List Int) =>
 ((IntKind.i64.wrap (x.2.1 - (1 : Int)) = x_2.1 ∧ Is (intss x.2.2.1) (intss x_2.2.1) ∧ True) ∧ Is (ints x.2.2.2) (ints x_2.2.2) ∧ True) ∧ (x_2.2.1.length ≤ (1000 : Nat) ∧ x_2.2.2.length ≤ (1000 : Nat)) ∧ (x_2.1 = x.2.1 - (↑(Pl.hunt x.1 x.2.2.2).1 : Int) ∧ Is (intss (x_2.2.1 ++ [Pl.note x_2.2.2])) (intss (x.2.2.1 ++ (Pl.hunt x.1 x.2.2.2).2.1)) ∧ True) ∧ Is (AV.lit (0 : Nat) (1 : Nat) (rowsCell [])) (bools (Pl.hunt x.1 x.2.2.2).2.2.1) ∧ false = (Pl.hunt x.1 x.2.2.2).2.2.2 ∧ True)
 (∃ x_2 : Pl.Cnf × List Int,
 ((x.1.1 = x_2.1.1 ∧ Is (intss x.1.2) (intss x_2.1.2) ∧ True) ∧ Is (ints (Pl.unitsS x_1.1.2 x_1.2).1) (ints x_2.2) ∧ True) ∧ (Pl.cnfOk x_2.1 = true ∧ Sz x_2.2) ∧ condP (Pl.freeL x_2.2 (Pl.marks x_2.1.1) == (0 : Int))
 (∃ x_3 : Pl.Cnf × List Int,
 ((x.1.1 = x_3.1.1 ∧ Is (intss x.1.2) (intss x_3.1.2) ∧ True) ∧ Is (ints (Pl.unitsS x_1.1.2 x_1.2).1) (ints x_3.2) ∧ True) ∧ (Pl.cnfOk x_3.1 = true ∧ Sz x_3.2) ∧ (IntKind.i64.wrap (x.2.1 - (1 : Int)) = x.2.1 - (↑(Pl.hunt x.1 x.2.2.2).1 : Int) ∧ Is (intss x.2.2.1) (intss (x.2.2.1 ++ (Pl.hunt x.1 x.2.2.2).2.1)) ∧ True) ∧ Is (bools (Pl.valsL x_3.2 (Pl.marks x_3.1.1))) (bools (Pl.hunt x.1 x.2.2.2).2.2.1) ∧ true = (Pl.hunt x.1 x.2.2.2).2.2.2 ∧ True)
 ((Exists fun (x_3 : Nat × Int × List (List Int)) =>
 Pl.HuntI x.1 x.2.2.2 x.2.1 x.2.2.1 x_3.1 x_3.2.1 x_3.2.2 ∧ (Is (ints x.2.2.2) (ints x.2.2.2) ∧ (0 : Nat) = (0 : Nat) ∧ (0 : Nat) = (0 : Nat) ∧ (0 : Nat) = (0 : Nat) ∧ Pl.freeL x_2.2 (Pl.marks x_2.1.1) = Pl.next x.1 x.2.2.2 ∧ (0 : Int) = (↑x_3.1 : Int) ∧ True) ∧ (x.1.1 = x.1.1 ∧ Is (intss x.1.2) (intss x.1.2) ∧ True) ∧ (IntKind.i64.wrap (x.2.1 - (1 : Int)) = x_3.2.1 ∧ Is (intss x.2.2.1) (intss x_3.2.2) ∧ True) ∧ ((0 : Int) = (0 : Int) ∧ Is (AV.lit (0 : Nat) (1 : Nat) fun (x x_4 : Nat) => AV.any) nilA ∧ True) ∧ True) ∧ ∀ (x_3 : Nat × Int × List (List Int)),
 Pl.HuntI x.1 x.2.2.2 x.2.1 x.2.2.1 x_3.1 x_3.2.1 x_3.2.2 →
 condP (decide ((↑x_3.1 : Int) < (2 : Int)))
 (((0 : Nat) = (0 : Nat) ∨ (0 : Nat) < x.2.2.2.length) ∧ ((0 : Nat) + x.2.2.2.length) * (8 : Nat) ≤ (70368744177664 : Nat) ∧ (0 : Nat) + ((0 : Nat) + x.2.2.2.length) ≤ (0 : Nat) + x.2.2.2.length ∧ ((0 : Nat) + x.2.2.2.length + (1 : Nat)) * (8 : Nat) ≤ (70368744177664 : Nat) ∧ (0 : Nat) + ((0 : Nat) + x.2.2.2.length + (1 : Nat)) ≤ (0 : Nat) + x.2.2.2.length + (1 : Nat) ∧ ∃ x_4 : FX,
 ((x.1.1 = x_4.1.1 ∧ Is (intss x.1.2) (intss x_4.1.2) ∧ True) ∧ (x_3.2.1 = x_4.2.1 ∧ Is (intss x_3.2.2) (intss x_4.2.2.1) ∧ True) ∧ Is
 (AV.sl ((0 : Nat) + x.2.2.2.length + (1 : Nat)) (1 : Nat) fun (i j : Nat) =>
 joinC ((0 : Nat) + x.2.2.2.length) (cI x.2.2.2)
 (rowsCell
 [[i64
 (IntKind.i64.wrap
 (Pl.next x.1 x.2.2.2 * IntKind.i64.wrap (IntKind.i64.wrap ((2 : Int) * (↑x_3.1 : Int)) - (1 : Int))))]])
 i j)
 (ints x_4.2.2.2) ∧ True) ∧ (((Pl.cnfOk x_4.1 = true ∧ SzC x_4.1 ∧ Pl.Rgt x_4.1 x_4.2.2.2) ∧ (↑(Pl.hunt x_4.1 x_4.2.2.2).1 : Int) ≤ x_4.2.1 ∧ x_4.2.1 ≤ (130 : Int) ∧ (↑x_4.2.2.1.length : Int) + x_4.2.1 ≤ (1000 : Int)) ∧ (61 : Nat) - x_4.2.2.2.length < n) ∧ condP (Pl.hunt x_4.1 x_4.2.2.2).2.2.2
 ((x_4.2.1 - (↑(Pl.hunt x_4.1 x_4.2.2.2).1 : Int) = x.2.1 - (↑(Pl.hunt x.1 x.2.2.2).1 : Int) ∧ Is (intss (x_4.2.2.1 ++ (Pl.hunt x_4.1 x_4.2.2.2).2.1)) (intss (x.2.2.1 ++ (Pl.hunt x.1 x.2.2.2).2.1)) ∧ True) ∧ Is (bools (Pl.hunt x_4.1 x_4.2.2.2).2.2.1) (bools (Pl.hunt x.1 x.2.2.2).2.2.1) ∧ (Pl.hunt x_4.1 x_4.2.2.2).2.2.2 = (Pl.hunt x.1 x.2.2.2).2.2.2 ∧ True)
 (condP (decide (x_4.2.1 - (↑(Pl.hunt x_4.1 x_4.2.2.2).1 : Int) < (0 : Int)))
 ((x_4.2.1 - (↑(Pl.hunt x_4.1 x_4.2.2.2).1 : Int) = x.2.1 - (↑(Pl.hunt x.1 x.2.2.2).1 : Int) ∧ Is (intss (x_4.2.2.1 ++ (Pl.hunt x_4.1 x_4.2.2.2).2.1)) (intss (x.2.2.1 ++ (Pl.hunt x.1 x.2.2.2).2.1)) ∧ True) ∧ Is (bools (Pl.hunt x_4.1 x_4.2.2.2).2.2.1) (bools (Pl.hunt x.1 x.2.2.2).2.2.1) ∧ (Pl.hunt x_4.1 x_4.2.2.2).2.2.2 = (Pl.hunt x.1 x.2.2.2).2.2.2 ∧ True)
 (Exists fun (x' : Nat × Int × List (List Int)) =>
 Pl.HuntI x.1 x.2.2.2 x.2.1 x.2.2.1 x'.1 x'.2.1 x'.2.2 ∧ (2 : Nat) - x'.1 < (2 : Nat) - x_3.1 ∧ (Is (ints x.2.2.2) (ints x.2.2.2) ∧ (0 : Nat) = (0 : Nat) ∧ (0 : Nat) = (0 : Nat) ∧ (0 : Nat) = (0 : Nat) ∧ Pl.next x.1 x.2.2.2 = Pl.next x.1 x.2.2.2 ∧ IntKind.i64.wrap ((↑x_3.1 : Int) + (1 : Int)) = (↑x'.1 : Int) ∧ True) ∧ (x.1.1 = x.1.1 ∧ Is (intss x.1.2) (intss x.1.2) ∧ True) ∧ (x_4.2.1 - (↑(Pl.hunt x_4.1 x_4.2.2.2).1 : Int) = x'.2.1 ∧ Is (intss (x_4.2.2.1 ++ (Pl.hunt x_4.1 x_4.2.2.2).2.1)) (intss x'.2.2) ∧ True) ∧ ((0 : Int) = (0 : Int) ∧ Is (AV.lit (0 : Nat) (1 : Nat) fun (x x_5 : Nat) => AV.any) nilA ∧ True) ∧ True)))
 (Exists fun (x_4 : Int × List (List Int) × List Int) =>
 ((x_3.2.1 = x_4.1 ∧ Is (intss x_3.2.2) (intss x_4.2.1) ∧ True) ∧ Is (ints x.2.2.2) (ints x_4.2.2) ∧ True) ∧ (x_4.2.1.length ≤ (1000 : Nat) ∧ x_4.2.2.length ≤ (1000 : Nat)) ∧ (x_4.1 = x.2.1 - (↑(Pl.hunt x.1 x.2.2.2).1 : Int) ∧ Is (intss (x_4.2.1 ++ [Pl.note x_4.2.2])) (intss (x.2.2.1 ++ (Pl.hunt x.1 x.2.2.2).2.1)) ∧ True) ∧ Is (AV.lit (0 : Nat) (1 : Nat) (rowsCell [])) (bools (Pl.hunt x.1 x.2.2.2).2.2.1) ∧ false = (Pl.hunt x.1 x.2.2.2).2.2.2 ∧ True))))) = Goal Try.prog [K_l10Units, K_l11Note, K_l11Free, K_l11Vals, (K_l11Find n)] (A_l11Find x.1 x.2.1 x.2.2.1 x.2.2.2) (K_l11Find (n + 1)).1 (K_l11Find (n + 1)).2 (x) := by kernel_rfl

theorem vc_l11Walk (n : Nat) (x : WX) : (∃ x_1 : Pl.Cnf × List Int,
 ((x.1.1 = x_1.1.1 ∧ Is (intss x.1.2) (intss x_1.1.2) ∧ True) ∧ Is (ints x.2.2) (ints x_1.2) ∧ True) ∧ (Pl.cnfOk x_1.1 = true ∧ SzC x_1.1 ∧ SzH x_1.2) ∧ ∃ x_2 : Pl.Cnf × List Int,
 ((x.1.1 = x_2.1.1 ∧ Is (intss x.1.2) (intss x_2.1.2) ∧ True) ∧ Is (ints (Pl.unitsS x_1.1.2 x_1.2).1) (ints x_2.2) ∧ True) ∧ (Pl.cnfOk x_2.1 = true ∧ Sz x_2.2) ∧ condP (Pl.unitsS x_1.1.2 x_1.2).2
 (condP (!(Pl.unitsS x_1.1.2 x_1.2).2)
 ((1 : Int) = (Pl.walk x.1 x.2.1 x.2.2).1 ∧ (Pl.freeL x_2.2 (Pl.marks x_2.1.1) == (0 : Int)) = (Pl.walk x.1 x.2.1 x.2.2).2 ∧ True)
 ((1 : Int) = (Pl.walk x.1 x.2.1 x.2.2).1 ∧ false = (Pl.walk x.1 x.2.1 x.2.2).2 ∧ True))
 (condP (Pl.freeL x_2.2 (Pl.marks x_2.1.1) == (0 : Int))
 (condP (!(Pl.unitsS x_1.1.2 x_1.2).2)
 ((1 : Int) = (Pl.walk x.1 x.2.1 x.2.2).1 ∧ (Pl.freeL x_2.2 (Pl.marks x_2.1.1) == (0 : Int)) = (Pl.walk x.1 x.2.1 x.2.2).2 ∧ True)
 ((1 : Int) = (Pl.walk x.1 x.2.1 x.2.2).1 ∧ false = (Pl.walk x.1 x.2.1 x.2.2).2 ∧ True))
 (condP (decide (x.2.1 < (2 : Int)))
 (condP (!(Pl.unitsS x_1.1.2 x_1.2).2)
 ((1 : Int) = (Pl.walk x.1 x.2.1 x.2.2).1 ∧ (Pl.freeL x_2.2 (Pl.marks x_2.1.1) == (0 : Int)) = (Pl.walk x.1 x.2.1 x.2.2).2 ∧ True)
 ((1 : Int) = (Pl.walk x.1 x.2.1 x.2.2).1 ∧ false = (Pl.walk x.1 x.2.1 x.2.2).2 ∧ True))
 ((∃ x_3 : Nat × Int,
 Pl.WalkI x.1 x.2.2 x.2.1 x_3.1 x_3.2 ∧ (x.2.1 = x.2.1 ∧ Is (ints x.2.2) (ints x.2.2) ∧ (0 : Nat) = (0 : Nat) ∧ Pl.freeL x_2.2 (Pl.marks x_2.1.1) = Pl.next x.1 x.2.2 ∧ (1 : Int) = x_3.2 ∧ (0 : Int) = (↑x_3.1 : Int) ∧ True) ∧ (x.1.1 = x.1.1 ∧ Is (intss x.1.2) (intss x.1.2) ∧ True) ∧ True) ∧ ∀ (x_3 : Nat × Int),
 Pl.WalkI x.1 x.2.2 x.2.1 x_3.1 x_3.2 →
 condP (decide ((↑x_3.1 : Int) < (2 : Int)))
 (condP (decide (x_3.2 < x.2.1))
 (((0 : Nat) = (0 : Nat) ∨ (0 : Nat) < x.2.2.length) ∧ ((0 : Nat) + x.2.2.length) * (8 : Nat) ≤ (70368744177664 : Nat) ∧ (0 : Nat) + ((0 : Nat) + x.2.2.length) ≤ (0 : Nat) + x.2.2.length ∧ ((0 : Nat) + x.2.2.length + (1 : Nat)) * (8 : Nat) ≤ (70368744177664 : Nat) ∧ (0 : Nat) + ((0 : Nat) + x.2.2.length + (1 : Nat)) ≤ (0 : Nat) + x.2.2.length + (1 : Nat) ∧ ∃ x_4 : WX,
 ((x.1.1 = x_4.1.1 ∧ Is (intss x.1.2) (intss x_4.1.2) ∧ True) ∧ IntKind.i64.wrap (x.2.1 - x_3.2) = x_4.2.1 ∧ Is
 (AV.sl ((0 : Nat) + x.2.2.length + (1 : Nat)) (1 : Nat) fun (i j : Nat) =>
 joinC ((0 : Nat) + x.2.2.length) (cI x.2.2)
 (rowsCell
 [[i64
 (IntKind.i64.wrap (Pl.next x.1 x.2.2 * IntKind.i64.wrap (IntKind.i64.wrap ((2 : Int) * (↑x_3.1 : Int)) - (1 : Int))))]])
 i j)
 (ints x_4.2.2) ∧ True) ∧ (((Pl.cnfOk x_4.1 = true ∧ SzC x_4.1 ∧ Pl.Rgt x_4.1 x_4.2.2) ∧ (1 : Int) ≤ x_4.2.1 ∧ x_4.2.1 ≤ (131 : Int)) ∧ (61 : Nat) - x_4.2.2.length < n) ∧ condP (Pl.walk x_4.1 x_4.2.1 x_4.2.2).2
 (IntKind.i64.wrap (x_3.2 + (Pl.walk x_4.1 x_4.2.1 x_4.2.2).1) = (Pl.walk x.1 x.2.1 x.2.2).1 ∧ true = (Pl.walk x.1 x.2.1 x.2.2).2 ∧ True)
 (Exists fun (x' : Nat × Int) =>
 Pl.WalkI x.1 x.2.2 x.2.1 x'.1 x'.2 ∧ (2 : Nat) - x'.1 < (2 : Nat) - x_3.1 ∧ (x.2.1 = x.2.1 ∧ Is (ints x.2.2) (ints x.2.2) ∧ (0 : Nat) = (0 : Nat) ∧ Pl.next x.1 x.2.2 = Pl.next x.1 x.2.2 ∧ IntKind.i64.wrap (x_3.2 + (Pl.walk x_4.1 x_4.2.1 x_4.2.2).1) = x'.2 ∧ IntKind.i64.wrap ((↑x_3.1 : Int) + (1 : Int)) = (↑x'.1 : Int) ∧ True) ∧ (x.1.1 = x.1.1 ∧ Is (intss x.1.2) (intss x.1.2) ∧ True) ∧ True))
 (x_3.2 = (Pl.walk x.1 x.2.1 x.2.2).1 ∧ false = (Pl.walk x.1 x.2.1 x.2.2).2 ∧ True))
 (x_3.2 = (Pl.walk x.1 x.2.1 x.2.2).1 ∧ false = (Pl.walk x.1 x.2.1 x.2.2).2 ∧ True))))) = Goal Try.prog [K_l10Units, K_l11Free, (K_l11Walk n)] (A_l11Walk x.1 x.2.1 x.2.2) (K_l11Walk (n + 1)).1 (K_l11Walk (n + 1)).2 (x) := by kernel_rfl

theorem vc_l11Cost (c : Pl.Cnf) (most : Int) : (condP (decide (most < (1 : Int))) ((1 : Int) = Pl.costOf c most)
 (∃ x : WX,
 ((c.1 = x.1.1 ∧ Is (intss c.2) (intss x.1.2) ∧ True) ∧ IntKind.i64.wrap (most + (1 : Int)) = x.2.1 ∧ Is (AV.sl ((0 : Nat)) (1 : Nat) fun (i j : Nat) => i64 (Int.ofNat ((0 : Nat)))) (ints x.2.2) ∧ True) ∧ ((Pl.cnfOk x.1 = true ∧ SzC x.1 ∧ Pl.Rgt x.1 x.2.2) ∧ (1 : Int) ≤ x.2.1 ∧ x.2.1 ≤ (131 : Int)) ∧ (Pl.walk x.1 x.2.1 x.2.2).1 = Pl.costOf c most)) = Goal Try.prog [K_l11WalkA] ([]) K_l11Cost.1 K_l11Cost.2 ((c, most)) := by kernel_rfl

theorem vc_l11Search (c : Pl.Cnf) (f : Int) : (∃ x : Pl.Cnf × Int,
 ((c.1 = x.1.1 ∧ Is (intss c.2) (intss x.1.2) ∧ True) ∧ f = x.2 ∧ Is (AV.lit (0 : Nat) (1 : Nat) (rowsCell [])) (ints []) ∧ True) ∧ (Pl.cnfOk x.1 = true ∧ SzC x.1 ∧ (0 : Int) ≤ x.2 ∧ x.2 ≤ (130 : Int)) ∧ condP (decide (f < Pl.costOf x.1 x.2))
 (((-1 : Int) = (Pl.search c f).1 ∧ Is (AV.lit (0 : Nat) (1 : Nat) (rowsCell [])) (intss (Pl.search c f).2.1) ∧ True) ∧ Is (AV.lit (0 : Nat) (1 : Nat) (rowsCell [])) (bools (Pl.search c f).2.2.1) ∧ false = (Pl.search c f).2.2.2 ∧ True)
 (∃ x : FX,
 ((c.1 = x.1.1 ∧ Is (intss c.2) (intss x.1.2) ∧ True) ∧ (f = x.2.1 ∧ Is (AV.lit (0 : Nat) (1 : Nat) (rowsCell [])) (intss x.2.2.1) ∧ True) ∧ Is (AV.lit (0 : Nat) (1 : Nat) (rowsCell [])) (ints x.2.2.2) ∧ True) ∧ ((Pl.cnfOk x.1 = true ∧ SzC x.1 ∧ Pl.Rgt x.1 x.2.2.2) ∧ (↑(Pl.hunt x.1 x.2.2.2).1 : Int) ≤ x.2.1 ∧ x.2.1 ≤ (130 : Int) ∧ (↑x.2.2.1.length : Int) + x.2.1 ≤ (1000 : Int)) ∧ (x.2.1 - (↑(Pl.hunt x.1 x.2.2.2).1 : Int) = (Pl.search c f).1 ∧ Is (intss (x.2.2.1 ++ (Pl.hunt x.1 x.2.2.2).2.1)) (intss (Pl.search c f).2.1) ∧ True) ∧ Is (bools (Pl.hunt x.1 x.2.2.2).2.2.1) (bools (Pl.search c f).2.2.1) ∧ (Pl.hunt x.1 x.2.2.2).2.2.2 = (Pl.search c f).2.2.2 ∧ True)) = Goal Try.prog [K_l11Cost, K_l11FindA] ([]) K_l11Search.1 K_l11Search.2 ((c, f)) := by kernel_rfl

theorem vc_sHuntRun (c : Pl.Cnf) (f : Int) : (∃ x : Pl.Cnf,
 ((c.1 = x.1 ∧ Is (intss c.2) (intss x.2) ∧ True) ∧ True) ∧ SzC x ∧ condP (!Pl.cnfOk x)
 (Is (AV.lit (0 : Nat) (1 : Nat) (rowsCell [])) (bools (Pl.huntRun c f).1) ∧ Is (AV.lit (0 : Nat) (1 : Nat) (rowsCell [])) (intss (Pl.huntRun c f).2.1) ∧ false = (Pl.huntRun c f).2.2 ∧ True)
 (condP (decide (f < (0 : Int)))
 (Is (AV.lit (0 : Nat) (1 : Nat) (rowsCell [])) (bools (Pl.huntRun c f).1) ∧ Is (AV.lit (0 : Nat) (1 : Nat) (rowsCell [])) (intss (Pl.huntRun c f).2.1) ∧ false = (Pl.huntRun c f).2.2 ∧ True)
 (condP (decide (f > (130 : Int)))
 (Is (AV.lit (0 : Nat) (1 : Nat) (rowsCell [])) (bools (Pl.huntRun c f).1) ∧ Is (AV.lit (0 : Nat) (1 : Nat) (rowsCell [])) (intss (Pl.huntRun c f).2.1) ∧ false = (Pl.huntRun c f).2.2 ∧ True)
 (∃ x : Pl.Cnf × Int,
 ((c.1 = x.1.1 ∧ Is (intss c.2) (intss x.1.2) ∧ True) ∧ f = x.2 ∧ True) ∧ (Pl.cnfOk x.1 = true ∧ SzC x.1 ∧ (0 : Int) ≤ x.2 ∧ x.2 ≤ (130 : Int)) ∧ condP (Pl.search x.1 x.2).2.2.2
 (Is (bools (Pl.search x.1 x.2).2.2.1) (bools (Pl.huntRun c f).1) ∧ Is (AV.lit (0 : Nat) (1 : Nat) (rowsCell [])) (intss (Pl.huntRun c f).2.1) ∧ true = (Pl.huntRun c f).2.2 ∧ True)
 (condP (decide ((Pl.search x.1 x.2).1 < (0 : Int)))
 (Is (AV.lit (0 : Nat) (1 : Nat) (rowsCell [])) (bools (Pl.huntRun c f).1) ∧ Is (AV.lit (0 : Nat) (1 : Nat) (rowsCell [])) (intss (Pl.huntRun c f).2.1) ∧ false = (Pl.huntRun c f).2.2 ∧ True)
 (condP (decide (IntKind.i64.wrap ((↑c.2.length : Int) + (↑(Pl.search x.1 x.2).2.1.length : Int)) > (400 : Int)))
 (Is (AV.lit (0 : Nat) (1 : Nat) (rowsCell [])) (bools (Pl.huntRun c f).1) ∧ Is (AV.lit (0 : Nat) (1 : Nat) (rowsCell [])) (intss (Pl.huntRun c f).2.1) ∧ false = (Pl.huntRun c f).2.2 ∧ True)
 (Is (AV.lit (0 : Nat) (1 : Nat) (rowsCell [])) (bools (Pl.huntRun c f).1) ∧ Is (intss (Pl.search x.1 x.2).2.1) (intss (Pl.huntRun c f).2.1) ∧ true = (Pl.huntRun c f).2.2 ∧ True))))))) = Goal Try.prog [K_sCnfOk, K_l11Search] ([]) K_sHuntRun.1 K_sHuntRun.2 ((c, f)) := by kernel_rfl

end Cg

/-
  Searches: plain laws. No condition.
-/
set_option linter.unusedVariables false
set_option linter.unusedSimpArgs false
namespace Pl
open Go Cg
/-! ### What is chosen -/

theorem rgt_nil (c : Cnf) : Rgt c [] := rfl
theorem rgt_init {many : Int} {l : List Int} {x : Int} (h : rightS many [] (l ++ [x]) = true) : rightS many [] l = true ∧ x ≠ 0 ∧ absW x ≤ many ∧ at_ x l = 0 := by
  rw [rightS_snoc] at h
  simp only [List.nil_append, Bool.and_eq_true, Bool.not_eq_true', Bool.or_eq_false_iff, decide_eq_false_iff_not] at h
  exact ⟨h.1, h.2.1.1, by omega, by have := h.2.2; omega⟩
theorem rgt_snoc {many : Int} {l : List Int} {x : Int} (h : rightS many [] l = true) (h0 : x ≠ 0) (h1 : absW x ≤ many) (h2 : at_ x l = 0) : rightS many [] (l ++ [x]) = true := by
  rw [rightS_snoc, h]
  simp only [List.nil_append, Bool.true_and, Bool.not_eq_true', Bool.or_eq_false_iff, decide_eq_false_iff_not]
  exact ⟨⟨h0, by omega⟩, by omega⟩
theorem absW_pos {x : Int} (h : x ≠ 0) (hm : absW x ≤ 60) : Mk x := by
  refine absW_mk ?_ hm
  unfold absW at hm ⊢
  by_cases h1 : x < -60
  · rw [if_pos h1] at hm; omega
  · rw [if_neg h1] at hm ⊢
    by_cases h2 : x > 60
    · rw [if_pos h2] at hm; omega
    · rw [if_neg h2] at hm ⊢
      by_cases h3 : x < 0
      · rw [if_pos h3]
        unfold wneg
        rw [Cg.wrap_small (by omega) (by omega)]; omega
      · rw [if_neg h3]; omega
theorem rgt_mk {many : Int} (hm : many ≤ 60) : ∀ {l done : List Int}, rightS many done l = true → ∀ x ∈ l, Mk x ∧ absW x ≤ many
  | [], _, _, x, hx => by cases hx
  | y :: l, done, h, x, hx => by
    simp only [rightS, Bool.and_eq_true, Bool.not_eq_true', Bool.or_eq_false_iff, decide_eq_false_iff_not] at h
    cases List.mem_cons.1 hx with
    | inl e => subst e; exact ⟨absW_pos h.1.1.1 (by omega), by omega⟩
    | inr e => exact rgt_mk hm h.2 x e
theorem rgt_cons {c : Cnf} {ds : List Int} (hc : cnfOk c = true) (h : Rgt c ds) : Cons ds := by
  have := rightS_cons (cnfOk_many hc) cons_nil h
  simpa using this
theorem uncov_right {many : Int} (hm : 0 ≤ many ∧ many ≤ 60) : ∀ (n : Nat) (l : List Int), l.length = n → rightS many [] l = true → uncov l + l.length ≤ 60
  | 0, l, hl, _ => by have := uncov_le l; omega
  | n + 1, l, hl, h => by
    obtain ⟨l', x, rfl⟩ : ∃ l' x, l = l' ++ [x] := by
      rcases List.eq_nil_or_concat l with rfl | ⟨l', x, e⟩
      · simp at hl
      · exact ⟨l', x, by rw [e]; simp⟩
    obtain ⟨h1, h2, h3, h4⟩ := rgt_init h
    have ih := uncov_right hm n l' (by simpa using hl) h1
    obtain ⟨h5, h6⟩ := at_ne h4
    have := cov_snoc (absW_pos h2 (by omega)) h5 h6
    simp only [List.length_append, List.length_singleton]
    omega
theorem rgt_len {c : Cnf} {ds : List Int} (hc : cnfOk c = true) (h : Rgt c ds) : ds.length ≤ 60 := by
  have := uncov_right (cnfOk_many hc) _ ds rfl h; omega

theorem mem_marks {many m : Int} (h : m ∈ marks many) : 1 ≤ m ∧ m ≤ many := by
  obtain ⟨i, hi, rfl⟩ := List.mem_map.1 h
  have := List.mem_range.1 hi
  omega
theorem marks_mem {many m : Int} (h1 : 1 ≤ m) (h2 : m ≤ many) : m ∈ marks many := List.mem_map.2 ⟨(m - 1).toNat, List.mem_range.2 (by omega), by omega⟩
theorem freeL_some {put : List Int} : ∀ {l : List Int}, freeL put l ≠ 0 → freeL put l ∈ l ∧ at_ (freeL put l) put = 0
  | [], h => absurd rfl h
  | m :: r, h => by
    unfold freeL at h ⊢
    by_cases h1 : at_ m put = 0
    · rw [if_pos h1]; exact ⟨List.mem_cons_self, h1⟩
    · rw [if_neg h1] at h ⊢
      obtain ⟨h2, h3⟩ := freeL_some h
      exact ⟨List.mem_cons_of_mem _ h2, h3⟩
theorem freeL_none {put : List Int} : ∀ {l : List Int}, (∀ m ∈ l, m ≠ 0) → freeL put l = 0 → ∀ m ∈ l, at_ m put ≠ 0
  | [], _, _, m, hm => by cases hm
  | x :: r, h0, h, m, hm => by
    unfold freeL at h
    by_cases h1 : at_ x put = 0
    · rw [if_pos h1] at h; exact absurd h (h0 x List.mem_cons_self)
    · rw [if_neg h1] at h
      cases List.mem_cons.1 hm with
      | inl e => subst e; exact h1
      | inr e => exact freeL_none (fun y hy => h0 y (List.mem_cons_of_mem _ hy)) h m e
theorem unitsF_pre (scan : List Int → List (List Int) → Option (Option Int)) (list : List (List Int)) : ∀ (k : Nat) (put : List Int), ∃ r, (unitsF scan list k put).1 = put ++ r
  | 0, put => ⟨[], by simp [unitsF]⟩
  | k + 1, put => by
    unfold unitsF
    split
    · exact ⟨[], by simp⟩
    · exact ⟨[], by simp⟩
    · rename_i l _
      obtain ⟨r, h⟩ := unitsF_pre scan list k (put ++ [l])
      exact ⟨l :: r, by rw [h]; simp⟩
theorem units_pre (list : List (List Int)) (put : List Int) : ∀ x ∈ put, x ∈ (unitsS list put).1 := fun x hx => by
  obtain ⟨r, h⟩ := unitsF_pre scanS list 61 put
  unfold unitsS
  rw [h]
  exact List.mem_append_left _ hx
theorem Mk.neg {x : Int} (h : Mk x) : Mk (-x) := ⟨by have := h.1; omega, by have := h.2.2; omega, by have := h.2.1; omega⟩
theorem absW_neg {x : Int} (h : Mk x) : absW (-x) = absW x := by
  rw [absW_of h.neg, absW_of h]
  have := h.1
  split <;> split <;> omega
/-- What may be chosen next. -/
theorem next_right {c : Cnf} {ds : List Int} (hc : cnfOk c = true) (h : Rgt c ds) (hn : next c ds ≠ 0) : 1 ≤ next c ds ∧ next c ds ≤ c.1 ∧ Rgt c (ds ++ [-next c ds]) ∧ Rgt c (ds ++ [next c ds]) := by
  obtain ⟨h1, h2⟩ := freeL_some hn
  obtain ⟨h3, h4⟩ := mem_marks h1
  have hm := cnfOk_many hc
  have mk : Mk (next c ds) := ⟨hn, by show -60 ≤ next c ds; have : 1 ≤ next c ds := h3; omega, by have : next c ds ≤ c.1 := h4; omega⟩
  obtain ⟨h5, h6⟩ := at_ne h2
  have h7 : next c ds ∉ ds := fun e => h5 (units_pre c.2 ds _ e)
  have h8 : -next c ds ∉ ds := fun e => h6 (by have := units_pre c.2 ds _ e; rw [← mk.wneg] at this; exact this)
  have ha : absW (next c ds) ≤ c.1 := by
    rw [absW_of mk, if_neg (by show ¬ next c ds < 0; have : 1 ≤ next c ds := h3; omega)]; exact h4
  refine ⟨h3, h4, rgt_snoc h mk.neg.1 (by rw [absW_neg mk]; exact ha) (at_of_not h8 (by rw [mk.neg.wneg, Int.neg_neg]; exact h7)), rgt_snoc h hn ha (at_of_not h7 (by rw [mk.wneg]; exact h8))⟩
theorem hunt_step {c : Cnf} {ds : List Int} (hc : cnfOk c = true) (h : Rgt c ds) : hunt c ds = if (unitsS c.2 ds).2 = true then (1, [note ds], [], false)
    else if next c ds = 0 then (1, [], valsL (unitsS c.2 ds).1 (marks c.1), true)
    else both ds (hunt c (ds ++ [-next c ds])) (hunt c (ds ++ [next c ds])) := by
  have hl := rgt_len hc h
  have e1 : 61 - ds.length = (60 - ds.length) + 1 := by omega
  have e2 : ∀ x : Int, 61 - (ds ++ [x]).length = 60 - ds.length := fun x => by simp only [List.length_append, List.length_singleton]; omega
  unfold hunt
  rw [e2, e2, e1]
  rfl
theorem full_cost (c : Cnf) : ∀ (k : Nat) (ds : List Int), 1 ≤ (full c k ds).1 ∧ (full c k ds).2.1.length ≤ (full c k ds).1
  | 0, ds => ⟨Nat.le_refl _, Nat.zero_le _⟩
  | k + 1, ds => by
    have a := full_cost c k (ds ++ [-next c ds])
    have b := full_cost c k (ds ++ [next c ds])
    unfold full
    split
    · exact ⟨Nat.le_refl _, Nat.le_refl _⟩
    · split
      · exact ⟨Nat.le_refl _, Nat.zero_le _⟩
      · unfold both
        split
        · exact ⟨by simp only; omega, by simp only; omega⟩
        · split
          · exact ⟨by simp only; omega, by simp only [List.length_append]; omega⟩
          · exact ⟨by simp only; omega, by simp only [List.length_append, List.length_singleton]; omega⟩
theorem hunt_cost (c : Cnf) (ds : List Int) : 1 ≤ (hunt c ds).1 ∧ (hunt c ds).2.1.length ≤ (hunt c ds).1 := full_cost c _ ds
/-- To go over what is chosen next. -/
theorem hunt_ind {c : Cnf} (hc : cnfOk c = true) {p : List Int → Prop} (bad : ∀ ds, Rgt c ds → (unitsS c.2 ds).2 = true → p ds) (found : ∀ ds, Rgt c ds → (unitsS c.2 ds).2 = false → next c ds = 0 → p ds)
    (step : ∀ ds, Rgt c ds → (unitsS c.2 ds).2 = false → next c ds ≠ 0 → p (ds ++ [-next c ds]) → p (ds ++ [next c ds]) → p ds) : ∀ (n : Nat) (ds : List Int), 61 ≤ ds.length + n → Rgt c ds → p ds
  | 0, ds, hn, h => by have := rgt_len hc h; omega
  | n + 1, ds, hn, h => by
    cases hb : (unitsS c.2 ds).2 with
    | true => exact bad ds h hb
    | false =>
      by_cases h0 : next c ds = 0
      · exact found ds h hb h0
      · obtain ⟨_, _, h1, h2⟩ := next_right hc h h0
        exact step ds h hb h0 (hunt_ind hc bad found step n _ (by simp only [List.length_append, List.length_singleton]; omega) h1) (hunt_ind hc bad found step n _ (by simp only [List.length_append, List.length_singleton]; omega) h2)

/-! ### What is found is true -/

theorem valsL_len (put : List Int) (many : Int) (hm : 0 ≤ many) : ((valsL put (marks many)).length : Int) = many := by
  unfold valsL marks; simp; omega
theorem valsL_get {put : List Int} {many : Int} {k : Nat} (hk : (k : Int) < many) : (valsL put (marks many)).getD k false = decide (at_ ((k : Int) + 1) put = 1) := by
  have h1 : k < many.toNat := by omega
  unfold valsL marks
  simp [h1]
theorem lIs_vals {put : List Int} {many x : Int} (hp : Cons put) (hx : Mk x) (ha : absW x ≤ many) (hm : many ≤ 60) (h : at_ x put = 1) : lIs x (valsL put (marks many)) = true := by
  obtain ⟨h1, h2⟩ := hx.le_abs ha
  have h0 : 0 ≤ many := by
    have := hx.1; omega
  have hl := valsL_len put many h0
  have hin : x ∈ put := by
    clear hl h0 h1 h2 ha
    induction put with
    | nil => cases h
    | cons p r ih =>
      unfold at_ at h
      by_cases e : p = x
      · rw [e]; exact List.mem_cons_self
      · rw [if_neg e] at h
        by_cases e2 : p = Pl.wneg x
        · rw [if_pos e2] at h; cases h
        · rw [if_neg e2] at h
          exact List.mem_cons_of_mem _ (ih (fun y hy => by
            obtain ⟨q1, q2, q3, q4⟩ := hp y (List.mem_cons_of_mem _ hy)
            exact ⟨q1, q2, q3, fun e => q4 (List.mem_cons_of_mem _ e)⟩) h)
  unfold lIs
  rw [if_neg (by rw [hl]; have := hx.1; omega)]
  by_cases hneg : x < 0
  · rw [if_pos hneg, valsL_get (by omega)]
    have e : (((-1 - x).toNat : Nat) : Int) + 1 = -x := by omega
    rw [e]
    have : at_ (-x) put = -1 := at_neg (hp x hin).2.2.2 (by rw [hx.neg.wneg, Int.neg_neg]; exact hin)
    rw [this]; rfl
  · have hx0 := hx.1
    rw [if_neg hneg, valsL_get (by omega)]
    have e : (((x - 1).toNat : Nat) : Int) + 1 = x := by have := hx.1; omega
    rw [e, h]; rfl
theorem leftL_none {put : List Int} : ∀ (c : List Int) (n : Nat) (l : Int), (∀ x ∈ c, at_ x put ≠ 0) → (∀ x ∈ c, at_ x put ≠ 1) → leftL put c n l = (n, l)
  | [], _, _, _, _ => rfl
  | x :: c, n, l, h0, h1 => by
    unfold leftL
    rw [if_neg (h1 x List.mem_cons_self), if_neg (h0 x List.mem_cons_self)]
    exact leftL_none c n l (fun y hy => h0 y (List.mem_cons_of_mem _ hy)) fun y hy => h1 y (List.mem_cons_of_mem _ hy)
theorem at_abs {x : Int} {put : List Int} (hx : Mk x) (h : at_ (x.natAbs : Int) put ≠ 0) : at_ x put ≠ 0 := fun e => by
  obtain ⟨h1, h2⟩ := at_ne e
  rw [hx.wneg] at h2
  refine h ?_
  by_cases hn : x < 0
  · have e1 : (x.natAbs : Int) = -x := by omega
    rw [e1]
    exact at_of_not h2 (by rw [hx.neg.wneg, Int.neg_neg]; exact h1)
  · have e1 : (x.natAbs : Int) = x := by omega
    rw [e1]; exact e
theorem found_true {c : Cnf} {ds : List Int} (hc : cnfOk c = true) (h : Rgt c ds) (hb : (unitsS c.2 ds).2 = false) (hn : next c ds = 0) : cnfIs c (valsL (unitsS c.2 ds).1 (marks c.1)) = true := by
  have hm := cnfOk_many hc
  obtain ⟨h1, h2⟩ := units_fix hc 61 ds (uncov_le ds) h hb
  change scanS (unitsS c.2 ds).1 c.2 = none at h1
  change Rgt c (unitsS c.2 ds).1 at h2
  have hp := rgt_cons hc h2
  have hall := freeL_none (put := (unitsS c.2 ds).1) (l := marks c.1) (fun m hm => by have := mem_marks hm; omega) hn
  unfold cnfIs
  rw [hc, decide_eq_true (valsL_len _ c.1 hm.1)]
  simp only [Bool.true_and, List.all_eq_true]
  intro cl hcl
  have hcl' := cnfOk_cl hc cl hcl
  have hfree : ∀ x ∈ cl, at_ x (unitsS c.2 ds).1 ≠ 0 := fun x hx => by
    obtain ⟨h3, h4⟩ := hcl' x hx
    obtain ⟨h5, h6⟩ := h3.le_abs h4
    exact at_abs h3 (hall _ (marks_mem (by have := h3.1; omega) (by omega)))
  have : ∃ x ∈ cl, at_ x (unitsS c.2 ds).1 = 1 := Classical.byContradiction fun e => by
    have := (scanS_none h1 cl hcl).1
    unfold left at this
    rw [leftL_none cl 0 0 hfree fun x hx h => e ⟨x, hx, h⟩] at this
    exact this rfl
  obtain ⟨x, hx, h3⟩ := this
  unfold clauseIs
  rw [List.any_eq_true]
  exact ⟨x, hx, lIs_vals hp (hcl' x hx).1 (hcl' x hx).2 hm.2 h3⟩
theorem hunt_found {c : Cnf} (hc : cnfOk c = true) : ∀ (n : Nat) (ds : List Int), 61 ≤ ds.length + n → Rgt c ds → ((hunt c ds).2.2.2 = true → cnfIs c (hunt c ds).2.2.1 = true) ∧ ((hunt c ds).2.2.2 = false → (hunt c ds).2.2.1 = []) :=
  hunt_ind hc (fun ds h hb => by
      rw [hunt_step hc h, if_pos hb]; exact ⟨fun h => (by cases h), fun _ => rfl⟩)
    (fun ds h hb hn => by
      rw [hunt_step hc h, if_neg (by rw [hb]; simp), if_pos hn]; exact ⟨fun _ => found_true hc h hb hn, fun h => (by cases h)⟩)
    (fun ds h hb hn ha hb' => by
      rw [hunt_step hc h, if_neg (by rw [hb]; simp), if_neg hn]
      unfold both
      split
      · rename_i e; exact ⟨fun _ => ha.1 e, fun h => (by cases h)⟩
      · split
        · rename_i e; exact ⟨fun _ => hb'.1 e, fun h => (by cases h)⟩
        · exact ⟨fun h => (by cases h), fun _ => rfl⟩)

/-! ### What is noted follows -/

theorem asc_spec' : ∀ {l : List Int} {last many : Int}, 0 ≤ many ∧ many ≤ 60 → Asc l → (∀ x ∈ l, Mrk x ∧ last < x.natAbs ∧ (x.natAbs : Int) ≤ many) → specLoop many last l = true
  | [], _, _, hm, _, _ => by simp [specLoop]; omega
  | x :: l, last, many, hm, ha, hl => by
    obtain ⟨a1, a2⟩ := List.pairwise_cons.1 ha
    obtain ⟨h1, h2, h3⟩ := hl x List.mem_cons_self
    simp only [specLoop]
    rw [absW_mrk h1, decide_eq_false (by omega), decide_eq_false (by omega)]
    exact asc_spec' hm a2 fun y hy => ⟨(hl y (List.mem_cons_of_mem _ hy)).1, by have := a1 y hy; omega, (hl y (List.mem_cons_of_mem _ hy)).2.2⟩
theorem note_spec {c : Cnf} {ds : List Int} (hc : cnfOk c = true) (h : Rgt c ds) : specClause (note ds) c.1 = true ∧ (∀ z, z ∈ note ds ↔ -z ∈ ds) ∧ (note ds).Nodup := by
  have hm := cnfOk_many hc
  have hp := rgt_cons hc h
  have hk := rgt_mk hm.2 h
  have hn : ∀ z, z ∈ nots ds ↔ -z ∈ ds := fun z => by
    unfold nots
    rw [List.mem_map]
    constructor
    · rintro ⟨y, hy, rfl⟩; rw [(hk y hy).1.wneg, Int.neg_neg]; exact hy
    · intro hz; exact ⟨-z, hz, by rw [(hk _ hz).1.wneg, Int.neg_neg]⟩
  have hf : (nots ds).all (fineMark (nots ds)) = true := List.all_eq_true.2 fun x hx => (fine_iff _ x).2 (by
    have h1 := (hn x).1 hx
    obtain ⟨h2, h3, h4, h5⟩ := hp _ h1
    exact ⟨⟨by omega, by omega, by omega⟩, fun e => by have := (hn _).1 e; exact h5 (by simpa using this)⟩)
  obtain ⟨h1, h2, h3⟩ := clauseOf_yes hf
  have hmem : ∀ z, z ∈ note ds ↔ -z ∈ ds := fun z => by unfold note; rw [h3, hn]
  refine ⟨asc_spec' hm h2 fun x hx => ?_, hmem, h2.imp fun h e => by subst e; omega⟩
  have h4 := (hmem x).1 hx
  obtain ⟨h5, h6⟩ := hk _ h4
  obtain ⟨h7, h8⟩ := h5.le_abs h6
  have h9 := h5.1
  exact ⟨⟨by omega, by have := h5.2.2; omega, by have := h5.2.1; omega⟩, by omega, by omega⟩
theorem leftL_eq {put put' : List Int} : ∀ (c : List Int) (n : Nat) (l : Int), (∀ x ∈ c, at_ x put = at_ x put') → leftL put c n l = leftL put' c n l
  | [], _, _, _ => rfl
  | x :: c, n, l, h => by
    unfold leftL
    rw [h x List.mem_cons_self, leftL_eq c _ _ fun y hy => h y (List.mem_cons_of_mem _ hy), leftL_eq c _ _ fun y hy => h y (List.mem_cons_of_mem _ hy)]
theorem at_keep {put put' : List Int} (hp : Cons put') (hs : ∀ x ∈ put, x ∈ put') {x : Int} (hx : Mk x) (h : at_ x put = -1) : at_ x put' = -1 := by
  have h1 := hs _ (at_mem h)
  exact at_neg (fun e => by
    rw [hx.wneg] at h1
    exact (hp x e).2.2.2 h1) h1
/-- What follows of less follows of more. -/
theorem units_mono {list list' : List (List Int)} (hl : ∀ c ∈ list, c ∈ list' ∧ ∀ x ∈ c, Mk x) {put' : List Int} (hp : Cons put') (hfix : scanS put' list' = none) :
    ∀ (k : Nat) (put : List Int), (∀ x ∈ put, x ∈ put') → (unitsF scanS list k put).2 = false ∧ ∀ x ∈ (unitsF scanS list k put).1, x ∈ put'
  | 0, put, hs => ⟨rfl, hs⟩
  | k + 1, put, hs => by
    unfold unitsF
    split
    · exact ⟨rfl, hs⟩
    · rename_i h
      obtain ⟨c, hc, h1⟩ := scanS_bad h
      have h2 := (leftL_zero c 0 0 h1).2
      refine absurd ?_ (scanS_none hfix c (hl c hc).1).1
      unfold left
      rw [leftL_falls c 0 0 fun x hx => at_keep hp hs ((hl c hc).2 x hx) (h2 x hx)]
    · rename_i l h
      obtain ⟨c, hc, h1, h2⟩ := scanS_unit h
      obtain ⟨h3, h4⟩ := left_one h1
      rw [h2] at h3 h4
      have hlast : ∀ x ∈ c, at_ x put = -1 ∨ x = l := fun x hx => (leftL_last c 0 h1 x hx).imp id fun e => by rw [e]; exact h2
      have hmk := (hl c hc).2
      have hin : l ∈ put' := Classical.byContradiction fun hno => by
        rcases at_cases (n := l) put' with e | e | e
        · exact hno (by
            clear hlast h4 h1 h2 hs hfix hp
            induction put' with
            | nil => cases e
            | cons p r ih =>
              unfold at_ at e
              by_cases e1 : p = l
              · rw [e1]; exact List.mem_cons_self
              · rw [if_neg e1] at e
                by_cases e2 : p = Pl.wneg l
                · rw [if_pos e2] at e; cases e
                · rw [if_neg e2] at e
                  exact List.mem_cons_of_mem _ (ih (fun h => hno (List.mem_cons_of_mem _ h)) e))
        · refine (scanS_none hfix c (hl c hc).1).1 ?_
          unfold left
          rw [leftL_falls c 0 0 fun x hx => by
            rcases hlast x hx with e1 | e1
            · exact at_keep hp hs (hmk x hx) e1
            · rw [e1]; exact e]
        · refine (scanS_none hfix c (hl c hc).1).2 ?_
          rw [← h1]
          unfold left
          have same : ∀ x ∈ c, at_ x put' = at_ x put := fun x hx => by
            by_cases e2 : x = l
            · rw [e2, e, h4]
            · rw [(hlast x hx).resolve_right e2]; exact (at_keep hp hs (hmk x hx) ((hlast x hx).resolve_right e2))
          rw [leftL_eq c 0 0 same]
      exact units_mono hl hp hfix k _ fun x hx => by
        rcases List.mem_append.1 hx with e | e
        · exact hs x e
        · rw [List.mem_singleton.1 e]; exact hin
/-- A mark of a clause whose others fall. -/
theorem leftL_lone {put : List Int} {m : Int} : ∀ (c : List Int) (l : Int), c.Nodup → m ∈ c → (∀ x ∈ c, at_ x put = -1 ∨ x = m) → at_ m put = 0 → (leftL put c 0 l).1 = 1
  | [], _, _, h, _, _ => by cases h
  | x :: c, l, hn, hm, ha, h0 => by
    obtain ⟨n1, n2⟩ := List.nodup_cons.1 hn
    have ha' : ∀ y ∈ c, at_ y put = -1 ∨ y = m := fun y hy => ha y (List.mem_cons_of_mem _ hy)
    unfold leftL
    by_cases e : x = m
    · subst e
      rw [h0, if_neg (by decide), if_pos rfl, leftL_falls c _ _ fun y hy => (ha' y hy).resolve_right fun e => n1 (by rw [← e]; exact hy)]
    · have h1 := (ha x List.mem_cons_self).resolve_right e
      rw [h1, if_neg (by decide), if_neg (by decide)]
      exact leftL_lone c l n2 ((List.mem_cons.1 hm).resolve_left fun e' => e e'.symm) ha' h0
theorem fix_lone {put : List Int} {list : List (List Int)} {cl : List Int} {m : Int} (hfix : scanS put list = none) (hc : cl ∈ list) (hn : cl.Nodup) (hm : m ∈ cl) (ha : ∀ x ∈ cl, at_ x put = -1 ∨ x = m) : at_ m put = 1 := by
  rcases at_cases (n := m) put with e | e | e
  · exact e
  · refine absurd ?_ (scanS_none hfix cl hc).1
    unfold left
    rw [leftL_falls cl 0 0 fun x hx => by
      rcases ha x hx with e1 | e1
      · exact e1
      · rw [e1]; exact e]
  · exact absurd (leftL_lone cl 0 hn hm ha e) (scanS_none hfix cl hc).2
theorem at_one_mem {n : Int} : ∀ {put : List Int}, at_ n put = 1 → n ∈ put
  | [], h => by cases h
  | p :: r, h => by
    unfold at_ at h
    by_cases e1 : p = n
    · rw [e1]; exact List.mem_cons_self
    · rw [if_neg e1] at h
      by_cases e2 : p = Pl.wneg n
      · rw [if_pos e2] at h; cases h
      · rw [if_neg e2] at h; exact List.mem_cons_of_mem _ (at_one_mem h)
theorem rgt_nots {c : Cnf} {cl : List Int} (hc : cnfOk c = true) (h : specClause cl c.1 = true) : Rgt c (nots cl) := by
  have hm := cnfOk_many hc
  have key : ∀ (l : List Int) (last : Int) (done : List Int), 0 ≤ last → specLoop c.1 last l = true → (∀ x ∈ done, absW x ≤ last ∧ Mk x) → rightS c.1 done (nots l) = true := by
    intro l
    induction l with
    | nil => intros; rfl
    | cons y l ih =>
      intro last done h0 h hd
      have hmk := (specLoop_mk h0 h).2 y List.mem_cons_self
      simp only [specLoop] at h
      cases hcc : (decide (absW y ≤ last) || decide (absW y > c.1))
      · rw [hcc] at h
        simp only [cond_false] at h
        have e : nots (y :: l) = -y :: nots l := by simp only [nots, List.map_cons, hmk.1.wneg]
        rw [e]
        simp only [rightS, Bool.and_eq_true, Bool.not_eq_true', Bool.or_eq_false_iff, decide_eq_false_iff_not]
        have far : ∀ x ∈ done, x ≠ y ∧ x ≠ -y := fun x hx => by
          have := (hd x hx).1
          exact ⟨fun e => by subst e; omega, fun e => by subst e; rw [absW_neg hmk.1] at this; omega⟩
        refine ⟨⟨⟨hmk.1.neg.1, by rw [absW_neg hmk.1]; omega⟩, ?_⟩, ih (absW y) _ (by omega) h fun x hx => ?_⟩
        · rw [at_of_not (fun e => (far _ e).2 rfl) (by rw [hmk.1.neg.wneg, Int.neg_neg]; exact fun e => (far _ e).1 rfl)]; simp
        · rcases List.mem_append.1 hx with e | e
          · exact ⟨by have := (hd x e).1; omega, (hd x e).2⟩
          · rw [List.mem_singleton.1 e]; exact ⟨by rw [absW_neg hmk.1]; omega, hmk.1.neg⟩
      · rw [hcc] at h; cases h
  exact key cl 0 [] (Int.le_refl 0) h fun x hx => by cases hx
/-- A clause follows if no fixed point holds its marks the other way. -/
theorem rup_of {c : Cnf} {cl : List Int} (hc : cnfOk c = true) (hs : specClause cl c.1 = true) (h : ∀ put, Cons put → scanS put c.2 = none → (∀ x ∈ cl, -x ∈ put) → False) : rup c cl = true := by
  unfold rup
  rw [hc, hs]
  simp only [Bool.true_and]
  cases hb : (unitsS c.2 (nots cl)).2 with
  | true => rfl
  | false =>
    exfalso
    have hr := rgt_nots hc hs
    obtain ⟨h1, h2⟩ := units_fix hc 61 (nots cl) (uncov_le _) hr hb
    refine h _ (rgt_cons hc h2) h1 fun x hx => units_pre c.2 (nots cl) _ ?_
    have := specClause_mk hs x hx
    rw [← this.wneg]
    exact List.mem_map.2 ⟨x, hx, rfl⟩
theorem cnfOk_more {c : Cnf} {L : List (List Int)} (hc : cnfOk c = true) (hL : ∀ x ∈ L, specClause x c.1 = true) (hn : c.2.length + L.length ≤ 400) : cnfOk (c.1, c.2 ++ L) = true := by
  simp only [cnfOk, Bool.and_eq_true, decide_eq_true_eq, List.all_eq_true, List.length_append] at hc ⊢
  exact ⟨⟨hc.1.1, hn⟩, fun x hx => (List.mem_append.1 hx).elim (hc.2 x) (hL x)⟩
theorem rup_bad {c : Cnf} {L : List (List Int)} {ds : List Int} (hc : cnfOk c = true) (hL : ∀ x ∈ L, specClause x c.1 = true) (hn : c.2.length + L.length ≤ 400) (h : Rgt c ds) (hb : (unitsS c.2 ds).2 = true) : rup (c.1, c.2 ++ L) (note ds) = true := by
  obtain ⟨h1, h2, _⟩ := note_spec hc h
  refine rup_of (cnfOk_more hc hL hn) h1 fun put hp hfix hx => ?_
  have := (units_mono (list := c.2) (list' := c.2 ++ L) (fun cl hcl => ⟨List.mem_append_left _ hcl, cnfOk_mk hc cl hcl⟩) hp hfix 61 ds fun x hx' => by
    have := hx (-x) ((h2 _).2 (by simpa using hx'))
    simpa using this).1
  unfold unitsS at hb
  rw [hb] at this; cases this
theorem rup_both {c : Cnf} {L : List (List Int)} {ds : List Int} {m : Int} (hc : cnfOk c = true) (hL : ∀ x ∈ L, specClause x c.1 = true) (hn : c.2.length + L.length ≤ 400) (h : Rgt c ds) (ha : Rgt c (ds ++ [-m])) (hb : Rgt c (ds ++ [m]))
    (h1 : note (ds ++ [-m]) ∈ L) (h2 : note (ds ++ [m]) ∈ L) : rup (c.1, c.2 ++ L) (note ds) = true := by
  obtain ⟨n1, n2, _⟩ := note_spec hc h
  obtain ⟨_, a2, a3⟩ := note_spec hc ha
  obtain ⟨_, b2, b3⟩ := note_spec hc hb
  refine rup_of (cnfOk_more hc hL hn) n1 fun put hp hfix hx => ?_
  have hds : ∀ x ∈ ds, x ∈ put := fun x hx' => by
    have := hx (-x) ((n2 _).2 (by simpa using hx'))
    simpa using this
  have fall : ∀ x, -x ∈ ds → Mk x → at_ x put = -1 := fun x hx' hk => by
    have h3 := hds _ hx'
    exact at_neg (fun e => (hp x e).2.2.2 h3) (by rw [hk.wneg]; exact h3)
  have hm := cnfOk_many hc
  have go : ∀ s : Int, Rgt c (ds ++ [-s]) → note (ds ++ [-s]) ∈ L → (∀ z, z ∈ note (ds ++ [-s]) ↔ -z ∈ ds ++ [-s]) → (note (ds ++ [-s])).Nodup → s ∈ put := fun s hr hin hmem hnd => by
    refine at_one_mem (fix_lone hfix (List.mem_append_right _ hin) hnd ((hmem s).2 (by simp)) fun x hx' => ?_)
    have h4 := (hmem x).1 hx'
    rcases List.mem_append.1 h4 with e | e
    · have hk := (rgt_mk hm.2 h _ e).1.neg
      rw [Int.neg_neg] at hk
      exact .inl (fall x e hk)
    · have := List.mem_singleton.1 e
      exact .inr (by omega)
  have p1 := go m ha h1 a2 a3
  have p2 := go (-m) (by rw [Int.neg_neg]; exact hb) (by rw [Int.neg_neg]; exact h2) (by rw [Int.neg_neg]; exact b2) (by rw [Int.neg_neg]; exact b3)
  exact (hp m p1).2.2.2 p2
/-- Each clause follows of those ahead of it. -/
def Chain (c : Cnf) : List (List Int) → List (List Int) → Prop
  | _, [] => True
  | L, x :: r => specClause x c.1 = true ∧ rup (c.1, c.2 ++ L) x = true ∧ Chain c (L ++ [x]) r
theorem chain_append {c : Cnf} : ∀ {a : List (List Int)} {L b : List (List Int)}, Chain c L a → Chain c (L ++ a) b → Chain c L (a ++ b)
  | [], L, b, _, h => by simpa using h
  | x :: a, L, b, h, h' => ⟨h.1, h.2.1, chain_append h.2.2 (by simpa using h')⟩
theorem chain_spec {c : Cnf} : ∀ {a : List (List Int)} {L : List (List Int)}, Chain c L a → ∀ x ∈ a, specClause x c.1 = true
  | [], _, _, x, hx => by cases hx
  | y :: a, L, h, x, hx => by
    cases List.mem_cons.1 hx with
    | inl e => subst e; exact h.1
    | inr e => exact chain_spec h.2.2 x e
theorem hunt_chain {c : Cnf} (hc : cnfOk c = true) : ∀ (n : Nat) (ds : List Int), 61 ≤ ds.length + n → Rgt c ds → ∀ L : List (List Int), (∀ x ∈ L, specClause x c.1 = true) → c.2.length + L.length + (hunt c ds).2.1.length ≤ 400 →
    Chain c L (hunt c ds).2.1 ∧ ((hunt c ds).2.2.2 = false → ∃ r, (hunt c ds).2.1 = r ++ [note ds]) :=
  hunt_ind hc (p := fun ds => ∀ L : List (List Int), (∀ x ∈ L, specClause x c.1 = true) → c.2.length + L.length + (hunt c ds).2.1.length ≤ 400 →
    Chain c L (hunt c ds).2.1 ∧ ((hunt c ds).2.2.2 = false → ∃ r, (hunt c ds).2.1 = r ++ [note ds])) (fun ds h hb L hL hn => by
      rw [hunt_step hc h, if_pos hb] at hn ⊢
      exact ⟨⟨(note_spec hc h).1, rup_bad hc hL (by simp only [List.length_singleton] at hn; omega) h hb, trivial⟩, fun _ => ⟨[], rfl⟩⟩)
    (fun ds h hb hn L hL hn' => by
      rw [hunt_step hc h, if_neg (by rw [hb]; simp), if_pos hn]; exact ⟨trivial, fun h => (by cases h)⟩)
    (fun ds h hb hn ha hb' L hL hn' => by
      obtain ⟨_, _, r1, r2⟩ := next_right hc h hn
      rw [hunt_step hc h, if_neg (by rw [hb]; simp), if_neg hn] at hn' ⊢
      unfold both at hn' ⊢
      by_cases e1 : (hunt c (ds ++ [-next c ds])).2.2.2 = true
      · rw [if_pos e1] at hn' ⊢
        exact ⟨(ha L hL hn').1, fun h => (by cases h)⟩
      · rw [if_neg e1] at hn' ⊢
        by_cases e2 : (hunt c (ds ++ [next c ds])).2.2.2 = true
        · rw [if_pos e2] at hn' ⊢
          simp only [List.length_append] at hn'
          obtain ⟨a1, _⟩ := ha L hL (by omega)
          have hL2 : ∀ x ∈ L ++ (hunt c (ds ++ [-next c ds])).2.1, specClause x c.1 = true := fun x hx => (List.mem_append.1 hx).elim (hL x) (chain_spec a1 x)
          exact ⟨chain_append a1 (hb' _ hL2 (by simp only [List.length_append]; omega)).1, fun h => (by cases h)⟩
        · rw [if_neg e2] at hn' ⊢
          simp only [List.length_append, List.length_singleton] at hn'
          obtain ⟨a1, a2⟩ := ha L hL (by omega)
          have hL2 : ∀ x ∈ L ++ (hunt c (ds ++ [-next c ds])).2.1, specClause x c.1 = true := fun x hx => (List.mem_append.1 hx).elim (hL x) (chain_spec a1 x)
          obtain ⟨b1, b2⟩ := hb' _ hL2 (by simp only [List.length_append]; omega)
          have hL3 : ∀ x ∈ L ++ ((hunt c (ds ++ [-next c ds])).2.1 ++ (hunt c (ds ++ [next c ds])).2.1), specClause x c.1 = true := fun x hx => by
            rw [← List.append_assoc] at hx
            exact (List.mem_append.1 hx).elim (hL2 x) (chain_spec b1 x)
          refine ⟨chain_append (chain_append a1 b1) ⟨(note_spec hc h).1, rup_both hc hL3 (by simp only [List.length_append]; omega) h r1 r2 ?_ ?_, trivial⟩, fun _ => ⟨_, rfl⟩⟩
          · obtain ⟨r, e⟩ := a2 (Bool.eq_false_iff.2 e1)
            rw [e]; simp
          · obtain ⟨r, e⟩ := b2 (Bool.eq_false_iff.2 e2)
            rw [e]; simp)
theorem logAll_of {c : Cnf} {log : List (List Int)} : ∀ (n i : Nat), i + n = log.length → Chain c (log.take i) (log.drop i) → logAll c log i = true
  | 0, i, hi, _ => logAll_end c (by omega)
  | n + 1, i, hi, h => by
    have hlt : i < log.length := by omega
    rw [logAll_step c hlt]
    have e : log.drop i = log.getD i [] :: log.drop (i + 1) := by
      rw [List.drop_eq_getElem_cons hlt]; simp [hlt]
    rw [e] at h
    rw [h.2.1, Bool.true_and]
    exact logAll_of n (i + 1) (by omega) (by rw [take_succ_getD [] hlt]; exact h.2.2)
/-- What a search that found nothing noted is a log that ends. -/
theorem hunt_log {c : Cnf} (hc : cnfOk c = true) (hf : (hunt c []).2.2.2 = false) (h130 : (hunt c []).1 ≤ 130) (hn : c.2.length + (hunt c []).2.1.length ≤ 400) : logOk c (hunt c []).2.1 = true ∧ ∃ r, (hunt c []).2.1 = r ++ [[]] := by
  obtain ⟨h1, h2⟩ := hunt_chain hc 61 [] (by simp) (rgt_nil c) [] (fun x hx => by cases hx) (by simpa using hn)
  have h3 := hunt_cost c []
  refine ⟨?_, h2 hf⟩
  unfold logOk
  rw [hc, decide_eq_true (by omega), decide_eq_true hn]
  simp only [Bool.true_and]
  exact logAll_of _ 0 (Nat.zero_add _) h1

/-! ### More that is given -/

theorem specLoop_len {many : Int} : ∀ {l : List Int} {last : Int}, 0 ≤ last → last ≤ many → specLoop many last l = true → (l.length : Int) + last ≤ many
  | [], last, _, h, _ => by simpa using h
  | x :: l, last, h0, h, hs => by
    simp only [specLoop] at hs
    cases hcc : (decide (absW x ≤ last) || decide (absW x > many))
    · rw [hcc] at hs
      simp only [cond_false] at hs
      simp only [Bool.or_eq_false_iff, decide_eq_false_iff_not] at hcc
      have := specLoop_len (by omega) (by omega) hs
      simp only [List.length_cons]; push_cast; omega
    · rw [hcc] at hs; cases hs
theorem spec_len {c : Cnf} {l : List Int} (hc : cnfOk c = true) (h : specClause l c.1 = true) : l.length ≤ 60 := by
  have hm := cnfOk_many hc
  have := specLoop_len (Int.le_refl 0) hm.1 h
  omega
/-- What a search tells. -/
theorem huntRun_cases (c : Cnf) (fuel : Int) : huntRun c fuel = ([], [], false) ∨
    (cnfOk c = true ∧ 0 ≤ fuel ∧ fuel ≤ 130 ∧ ((hunt c []).1 : Int) ≤ fuel ∧
      ((cnfIs c (hunt c []).2.2.1 = true ∧ huntRun c fuel = ((hunt c []).2.2.1, [], true)) ∨
       ((hunt c []).2.2.2 = false ∧ c.2.length + (hunt c []).2.1.length ≤ 400 ∧ (∃ r, (hunt c []).2.1 = r ++ [[]]) ∧ logOk c (hunt c []).2.1 = true ∧ huntRun c fuel = ([], (hunt c []).2.1, true)))) := by
  unfold huntRun
  split
  · rename_i h
    obtain ⟨h1, h2, h3, h4⟩ := h
    cases hf : (hunt c []).2.2.2 with
    | true =>
      rw [if_pos rfl]
      exact .inr ⟨h1, h2, h3, h4, .inl ⟨(hunt_found h1 61 [] (by simp) (rgt_nil c)).1 hf, rfl⟩⟩
    | false =>
      rw [if_neg (by simp)]
      split
      · exact .inl rfl
      · rename_i h5
        obtain ⟨g1, g2⟩ := hunt_log h1 hf (by omega) (by omega)
        exact .inr ⟨h1, h2, h3, h4, .inr ⟨rfl, by omega, g2, g1, rfl⟩⟩
  · exact .inl rfl
theorem logOk_len {c : Cnf} {log : List (List Int)} (h : logOk c log = true) : log.length ≤ 130 ∧ ∀ x ∈ log, x.length ≤ 60 := by
  unfold logOk at h
  simp only [Bool.and_eq_true, decide_eq_true_eq] at h
  obtain ⟨⟨⟨h1, h2⟩, h3⟩, h4⟩ := h
  refine ⟨h2, fun x hx => ?_⟩
  obtain ⟨i, hi, rfl⟩ := List.getElem_of_mem hx
  unfold logAll at h4
  have := List.all_eq_true.1 h4 i (List.mem_range'.2 ⟨i, by omega, by omega⟩)
  unfold rup at this
  simp only [Bool.and_eq_true] at this
  have h5 := spec_len h1 this.1.2
  simpa [hi] using h5
theorem huntRun_sz (c : Cnf) (fuel : Int) : (huntRun c fuel).1.length ≤ 60 ∧ (huntRun c fuel).2.1.length ≤ 130 ∧ ∀ x ∈ (huntRun c fuel).2.1, x.length ≤ 60 := by
  rcases huntRun_cases c fuel with e | ⟨hc, _, _, _, ⟨h, e⟩ | ⟨_, _, _, h, e⟩⟩
  · rw [e]; exact ⟨Nat.zero_le _, Nat.zero_le _, fun x hx => by cases hx⟩
  · rw [e]
    have hm := cnfOk_many hc
    simp only [cnfIs, Bool.and_eq_true, decide_eq_true_eq] at h
    refine ⟨?_, Nat.zero_le _, fun x hx => by cases hx⟩
    have := h.1.2
    show (hunt c []).2.2.1.length ≤ 60
    omega
  · rw [e]; exact ⟨Nat.zero_le _, (logOk_len h).1, (logOk_len h).2⟩
end Pl

/-
  The codes' contracts: searches. No condition.
-/
set_option linter.unusedVariables false
set_option linter.unusedSimpArgs false
set_option maxRecDepth 100000
namespace Pl
open Go Cg
theorem hunt_bad {c : Cnf} {ds : List Int} (hc : cnfOk c = true) (h : Rgt c ds) (hb : (unitsS c.2 ds).2 = true) : hunt c ds = (1, [note ds], [], false) := by
  rw [hunt_step hc h, if_pos hb]
theorem hunt_all {c : Cnf} {ds : List Int} (hc : cnfOk c = true) (h : Rgt c ds) (hb : (unitsS c.2 ds).2 = false) (hn : next c ds = 0) : hunt c ds = (1, [], valsL (unitsS c.2 ds).1 (marks c.1), true) := by
  rw [hunt_step hc h, if_neg (by rw [hb]; simp), if_pos hn]
theorem hunt_one {c : Cnf} {ds : List Int} (hc : cnfOk c = true) (h : Rgt c ds) (hb : (unitsS c.2 ds).2 = false) (hn : next c ds ≠ 0) (h1 : (one c ds).2.2.2 = true) : hunt c ds = (1 + (one c ds).1, (one c ds).2.1, (one c ds).2.2.1, true) := by
  rw [hunt_step hc h, if_neg (by rw [hb]; simp), if_neg hn]
  show both ds (one c ds) (two c ds) = _
  unfold both
  rw [if_pos h1]
theorem hunt_two {c : Cnf} {ds : List Int} (hc : cnfOk c = true) (h : Rgt c ds) (hb : (unitsS c.2 ds).2 = false) (hn : next c ds ≠ 0) (h1 : (one c ds).2.2.2 = false) (h2 : (two c ds).2.2.2 = true) : hunt c ds = (1 + (one c ds).1 + (two c ds).1, (one c ds).2.1 ++ (two c ds).2.1, (two c ds).2.2.1, true) := by
  rw [hunt_step hc h, if_neg (by rw [hb]; simp), if_neg hn]
  show both ds (one c ds) (two c ds) = _
  unfold both
  rw [if_neg (by rw [h1]; simp), if_pos h2]
theorem hunt_none {c : Cnf} {ds : List Int} (hc : cnfOk c = true) (h : Rgt c ds) (hb : (unitsS c.2 ds).2 = false) (hn : next c ds ≠ 0) (h1 : (one c ds).2.2.2 = false) (h2 : (two c ds).2.2.2 = false) : hunt c ds = (1 + (one c ds).1 + (two c ds).1, (one c ds).2.1 ++ (two c ds).2.1 ++ [note ds], [], false) := by
  rw [hunt_step hc h, if_neg (by rw [hb]; simp), if_neg hn]
  show both ds (one c ds) (two c ds) = _
  unfold both
  rw [if_neg (by rw [h1]; simp), if_neg (by rw [h2]; simp)]
theorem hunt_cases {c : Cnf} {ds : List Int} (hc : cnfOk c = true) (h : Rgt c ds) (hb : (unitsS c.2 ds).2 = false) (hn : next c ds ≠ 0) :
    ((one c ds).2.2.2 = true ∧ hunt c ds = (1 + (one c ds).1, (one c ds).2.1, (one c ds).2.2.1, true)) ∨
    ((one c ds).2.2.2 = false ∧ (two c ds).2.2.2 = true ∧ hunt c ds = (1 + (one c ds).1 + (two c ds).1, (one c ds).2.1 ++ (two c ds).2.1, (two c ds).2.2.1, true)) ∨
    ((one c ds).2.2.2 = false ∧ (two c ds).2.2.2 = false ∧ hunt c ds = (1 + (one c ds).1 + (two c ds).1, (one c ds).2.1 ++ (two c ds).2.1 ++ [note ds], [], false)) := by
  cases h1 : (one c ds).2.2.2 with
  | true => exact .inl ⟨rfl, hunt_one hc h hb hn h1⟩
  | false =>
    cases h2 : (two c ds).2.2.2 with
    | true => exact .inr (.inl ⟨rfl, rfl, hunt_two hc h hb hn h1 h2⟩)
    | false => exact .inr (.inr ⟨rfl, rfl, hunt_none hc h hb hn h1 h2⟩)
theorem choice (m : Int) (h1 : 1 ≤ m) (h2 : m ≤ 60) : IntKind.i64.wrap (m * IntKind.i64.wrap (IntKind.i64.wrap (2 * ((0 : Nat) : Int)) - 1)) = -m ∧ IntKind.i64.wrap (m * IntKind.i64.wrap (IntKind.i64.wrap (2 * ((1 : Nat) : Int)) - 1)) = m := by
  have e0 : IntKind.i64.wrap (IntKind.i64.wrap (2 * ((0 : Nat) : Int)) - 1) = -1 := by decide
  have e1 : IntKind.i64.wrap (IntKind.i64.wrap (2 * ((1 : Nat) : Int)) - 1) = 1 := by decide
  rw [e0, e1, Cg.wrap_small (by omega) (by omega), Cg.wrap_small (by omega) (by omega)]
  exact ⟨by omega, by omega⟩
theorem walk_le {c : Cnf} {most : Int} {ds : List Int} (h : ((hunt c ds).1 : Int) ≤ most) : walk c most ds = (((hunt c ds).1 : Int), (hunt c ds).2.2.2) := if_pos h
theorem walk_gt {c : Cnf} {most : Int} {ds : List Int} (h : most < (hunt c ds).1) : walk c most ds = (most, false) := if_neg (by omega)
theorem marks_len (many : Int) : (marks many).length = many.toNat := by unfold marks; simp
theorem marks_drop {many : Int} {k : Nat} (h : (k : Int) < many) : (marks many).drop k = ((k : Int) + 1) :: (marks many).drop (k + 1) := by
  rw [Cg.drop_get 0 (by rw [marks_len]; omega)]
  congr 1
  unfold marks
  simp [show k < many.toNat by omega]
theorem marks_end {many : Int} {k : Nat} (h : many ≤ k) : (marks many).drop k = [] := List.drop_eq_nil_of_le (by rw [marks_len]; omega)
theorem units_len (l : List (List Int)) (put : List Int) : (unitsS l put).1.length ≤ put.length + 61 := unitsF_len _ _ _ _
theorem nots_len' (ds : List Int) : (nots ds).length = ds.length := by unfold nots; simp
theorem valsL_cons {put : List Int} {many : Int} {j : Nat} (h : (j : Int) + 1 ≤ many) : valsL put ((marks many).drop j) = decide (at_ ((j : Int) + 1) put = 1) :: valsL put ((marks many).drop (j + 1)) := by
  rw [marks_drop (by omega)]; rfl
theorem freeL_cons {put : List Int} {many : Int} {j : Nat} (h : (j : Int) + 1 ≤ many) : freeL put ((marks many).drop j) = if at_ ((j : Int) + 1) put = 0 then (j : Int) + 1 else freeL put ((marks many).drop (j + 1)) := by
  rw [marks_drop (by omega)]; rfl
theorem rep_set (j : Nat) (l : List Bool) : (List.replicate (j + 1) false ++ l).set j true = List.replicate j false ++ true :: l := by
  rw [List.replicate_succ', List.append_assoc, List.set_append_right _ _ (by simp)]; simp
theorem rep_cons (j : Nat) (l : List Bool) : List.replicate (j + 1) false ++ l = List.replicate j false ++ false :: l := by
  rw [List.replicate_succ', List.append_assoc]; rfl
theorem down_in {put : List Int} {many : Int} {j : Nat} (hp : Cons put) (hk : (j : Int) + 1 ≤ many) (hm : many ≤ 60) (h : (j : Int) + 1 ∈ put) :
    freeL put ((marks many).drop (j + 1)) = freeL put ((marks many).drop j) ∧ (List.replicate (j + 1) false ++ valsL put ((marks many).drop (j + 1))).set j true = List.replicate j false ++ valsL put ((marks many).drop j) := by
  have hk' : Mk ((j : Int) + 1) := ⟨by omega, by omega, by omega⟩
  have e := at_pos (fun e => by rw [hk'.wneg] at e; exact (hp _ h).2.2.2 e) h
  rw [freeL_cons hk, valsL_cons hk, rep_set, e, if_neg (by decide)]
  exact ⟨rfl, rfl⟩
theorem down_neg {put : List Int} {many : Int} {j : Nat} (hk : (j : Int) + 1 ≤ many) (hm : many ≤ 60) (h : ¬ (j : Int) + 1 ∈ put) (h' : -((j : Int) + 1) ∈ put) :
    freeL put ((marks many).drop (j + 1)) = freeL put ((marks many).drop j) ∧ List.replicate (j + 1) false ++ valsL put ((marks many).drop (j + 1)) = List.replicate j false ++ valsL put ((marks many).drop j) := by
  have hk' : Mk ((j : Int) + 1) := ⟨by omega, by omega, by omega⟩
  have e := at_neg h (by rw [hk'.wneg]; exact h')
  rw [freeL_cons hk, valsL_cons hk, rep_cons, e, if_neg (by decide)]
  exact ⟨rfl, rfl⟩
theorem down_no {put : List Int} {many : Int} {j : Nat} (hk : (j : Int) + 1 ≤ many) (hm : many ≤ 60) (h : ¬ (j : Int) + 1 ∈ put) (h' : ¬ -((j : Int) + 1) ∈ put) :
    (j : Int) + 1 = freeL put ((marks many).drop j) ∧ List.replicate (j + 1) false ++ valsL put ((marks many).drop (j + 1)) = List.replicate j false ++ valsL put ((marks many).drop j) := by
  have hk' : Mk ((j : Int) + 1) := ⟨by omega, by omega, by omega⟩
  have e := at_of_not h (by rw [hk'.wneg]; exact h')
  rw [freeL_cons hk, valsL_cons hk, rep_cons, e, if_pos rfl]
  exact ⟨rfl, rfl⟩
theorem acc_len (c : Cnf) (ds : List Int) (i : Nat) (h : i ≤ 2) : ((accL c ds i).length : Int) ≤ accC c ds i ∧ 1 ≤ accC c ds i := by
  have c1 : ((one c ds).2.1.length : Int) ≤ (one c ds).1 := by exact_mod_cast (hunt_cost c (ds ++ [-next c ds])).2
  have c2 : ((two c ds).2.1.length : Int) ≤ (two c ds).1 := by exact_mod_cast (hunt_cost c (ds ++ [next c ds])).2
  have e1 : accC c ds 1 = 1 + ((one c ds).1 : Int) := rfl
  have e2 : accC c ds 2 = 1 + ((one c ds).1 : Int) + ((two c ds).1 : Int) := rfl
  rcases (by omega : i = 0 ∨ i = 1 ∨ i = 2) with rfl | rfl | rfl
  · exact ⟨by simp [accL, accC], by simp [accC]⟩
  · rw [e1]; exact ⟨by simp only [accL]; omega, by omega⟩
  · rw [e2]; exact ⟨by simp only [accL, List.length_append]; push_cast; omega, by omega⟩
theorem huntP_up {c : Cnf} {ds : List Int} (hc : cnfOk c = true) (h : Rgt c ds) (hb : (unitsS c.2 ds).2 = false) (hn : next c ds ≠ 0) {f f' : Int} {log log' : List (List Int)} {i : Nat} {y : HY} {ds' : List Int}
    (hI : HuntI c ds f log i f' log') (hi : i = 0 ∧ ds' = ds ++ [-next c ds] ∨ i = 1 ∧ ds' = ds ++ [next c ds]) (hP : HuntP c ds' f' log' y) :
    (y.2.2.2.2 = true ∨ y.2.2.1 = true → HuntP c ds f log y) ∧ (y.2.2.2.2 = false → y.2.2.1 = false → HuntI c ds f log (i + 1) y.1 y.2.1) := by
  have hcs := hunt_cases hc h hb hn
  have e0 : accC c ds 0 = 1 := rfl
  have e1 : accC c ds 1 = 1 + ((one c ds).1 : Int) := rfl
  have e2 : accC c ds 2 = 1 + ((one c ds).1 : Int) + ((two c ds).1 : Int) := rfl
  obtain ⟨_, hacc, rfl, rfl, hi1, hi2⟩ := hI
  rcases hi with ⟨rfl, rfl⟩ | ⟨rfl, rfl⟩
  · change ((((one c ds).1 : Int) ≤ f - accC c ds 0 → y = (f - accC c ds 0 - ((one c ds).1 : Int), (log ++ accL c ds 0) ++ (one c ds).2.1, false, (one c ds).2.2.1, (one c ds).2.2.2)) ∧ _) at hP
    by_cases hle : ((one c ds).1 : Int) ≤ f - accC c ds 0
    · rw [hP.1 hle]
      refine ⟨fun h1 => ?_, fun h1 _ => ⟨by omega, by rw [e1]; omega, by rw [e1, e0]; show f - 1 - _ = _; omega, by simp [accL], fun _ => h1, fun h => absurd h (by omega)⟩⟩
      have h2 : (one c ds).2.2.2 = true := h1.elim id fun e => (by cases e)
      have e := hunt_one hc h hb hn h2
      refine ⟨fun _ => ?_, fun hlt => absurd hlt (by rw [e]; push_cast; omega)⟩
      rw [e, h2]
      refine Prod.ext ?_ (Prod.ext (by simp [accL]) rfl)
      show f - accC c ds 0 - ((one c ds).1 : Int) = f - ((1 + (one c ds).1 : Nat) : Int)
      push_cast; omega
    · obtain ⟨h1, h2, h3⟩ := hP.2 (by change f - accC c ds 0 < ((one c ds).1 : Int); omega)
      refine ⟨fun _ => ⟨fun hle' => absurd hle' ?_, fun _ => ⟨h1, h2, h3⟩⟩, fun _ e => (by rw [h1] at e; cases e)⟩
      rcases hcs with ⟨_, e⟩ | ⟨_, _, e⟩ | ⟨_, _, e⟩ <;> rw [e] <;> push_cast <;> omega
  · have g1 := hi1 (by omega)
    change ((((two c ds).1 : Int) ≤ f - accC c ds 1 → y = (f - accC c ds 1 - ((two c ds).1 : Int), (log ++ accL c ds 1) ++ (two c ds).2.1, false, (two c ds).2.2.1, (two c ds).2.2.2)) ∧ _) at hP
    by_cases hle : ((two c ds).1 : Int) ≤ f - accC c ds 1
    · rw [hP.1 hle]
      refine ⟨fun h1 => ?_, fun h1 _ => ⟨by omega, by rw [e2]; omega, by rw [e1, e2]; show f - _ - _ = _; omega, by simp [accL], fun _ => g1, fun _ => h1⟩⟩
      have h2 : (two c ds).2.2.2 = true := h1.elim id fun e => (by cases e)
      have e := hunt_two hc h hb hn g1 h2
      refine ⟨fun _ => ?_, fun hlt => absurd hlt (by rw [e]; push_cast; omega)⟩
      rw [e, h2]
      refine Prod.ext ?_ (Prod.ext (by simp [accL]) rfl)
      show f - accC c ds 1 - ((two c ds).1 : Int) = f - ((1 + (one c ds).1 + (two c ds).1 : Nat) : Int)
      push_cast; omega
    · obtain ⟨h1, h2, h3⟩ := hP.2 (by change f - accC c ds 1 < ((two c ds).1 : Int); omega)
      refine ⟨fun _ => ⟨fun hle' => absurd hle' ?_, fun _ => ⟨h1, h2, h3⟩⟩, fun _ e => (by rw [h1] at e; cases e)⟩
      rcases hcs with ⟨g, _⟩ | ⟨_, _, e⟩ | ⟨_, _, e⟩
      · rw [g1] at g; cases g
      · rw [e]; push_cast; omega
      · rw [e]; push_cast; omega
end Pl
namespace Cg
open Go Go.Proofs
theorem k_l11Free : SoundC Try.prog K_l11Free.1 K_l11Free.2 := sound_of hm (CtxOK.nil.and k_l10At) (fun (c, put) => A_l11Free c put) (by kernel_rfl) fun (c, put) hl => (by
  obtain ⟨hc, hp⟩ : Pl.cnfOk c = true ∧ Sz put := hl
  have hm := Pl.cnfOk_many hc
  rw [← vc_l11Free c put]
  simp [-List.getD_eq_getElem?_getD, -List.mem_cons, -Bool.forall_bool, -Bool.exists_bool, and_assoc, peta, tl_inj, ex_1, ex_2, ex_3, ex_4, ex_5, ex_6, ex_7, ex_8, ex_9, ey_2, ey_3, ey_4, ey_5, ey_6, ey_7, ey_8, ey_9]
  refine ⟨⟨0, by omega, by simp, by omega⟩, fun k hk he => ⟨fun hlt => ⟨hp, fun h0 => ?_, fun h0 => ⟨k + 1, by omega, ?_, by omega, Cg.wrap_small (by omega) (by omega)⟩⟩, fun hge => ?_⟩⟩
  · rw [he, Pl.marks_drop (by omega)]; unfold Pl.freeL; rw [if_pos (by exact_mod_cast h0)]
  · rw [he, Pl.marks_drop (by omega)]; conv => lhs; unfold Pl.freeL
    rw [if_neg (by exact_mod_cast h0)]
  · rw [he, Pl.marks_end (by omega)]; rfl)
theorem k_l11Vals : SoundC Try.prog K_l11Vals.1 K_l11Vals.2 := sound_of hm (CtxOK.nil.and k_l10At) (fun (c, put) => A_l11Vals c put) (by kernel_rfl) fun (c, put) hl => (by
  obtain ⟨hc, hp⟩ : Pl.cnfOk c = true ∧ Sz put := hl
  have hm := Pl.cnfOk_many hc
  rw [← vc_l11Vals c put]
  simp [-List.getD_eq_getElem?_getD, -List.mem_cons, -Bool.forall_bool, -Bool.exists_bool, and_assoc, peta, tl_inj, ex_1, ex_2, ex_3, ex_4, ex_5, ex_6, ex_7, ex_8, ex_9, ey_2, ey_3, ey_4, ey_5, ey_6, ey_7, ey_8, ey_9]
  refine ⟨⟨0, by omega, [], rfl, by simp, rfl, by omega, rfl⟩, fun k out hk hl he => ⟨fun hlt => ⟨hp, by omega, k + 1, by omega, out ++ [decide (Pl.at_ ((k : Int) + 1) put = 1)], by simp [hl], ?_, by omega, by simp, Cg.wrap_small (by omega) (by omega), ?_⟩, fun hge => ?_⟩⟩
  · rw [he, Pl.marks_drop (by omega)]; unfold Pl.valsL; simp
  · have e : (Pl.at_ ((k : Int) + 1) put == 1) = decide (Pl.at_ ((k : Int) + 1) put = 1) := beq_eq_decide ..
    rw [e]; exact bools_push
  · rw [he, Pl.marks_end (by omega)]; simp [Pl.valsL])
theorem k_l11Note : SoundC Try.prog K_l11Note.1 K_l11Note.2 := sound_of hm ((CtxOK.nil.and k_sClauseOf).and k_l10Nots) (fun _ => []) (by kernel_rfl) fun (f, log, ds) hl => (by
  obtain ⟨h1, h2⟩ : log.length ≤ 1000 ∧ ds.length ≤ 1000 := hl
  rw [← vc_l11Note f log ds]
  simp [-List.getD_eq_getElem?_getD, -List.mem_cons, -Bool.forall_bool, -Bool.exists_bool, and_assoc, peta, tl_inj, ex_1, ex_2, ex_3, ex_4, ex_5, ex_6, ex_7, ex_8, ex_9, ey_2, ey_3, ey_4, ey_5, ey_6, ey_7, ey_8, ey_9]
  have hn : (Pl.nots ds).length = ds.length := by unfold Pl.nots; simp
  exact ⟨by omega, by omega, by omega, by omega, ((Rds.cel EncN.eII log).join (Rds.row (intss_row _))).is⟩)
theorem k_l11Find0 (n : Nat) : SoundC Try.prog (K_l11Find n).1 (K_l11Find n).2 := by
  induction n with
  | zero => exact sound_of hm CtxOK.nil (fun _ => []) (by kernel_rfl) fun x hx => absurd hx.2 (Nat.not_lt_zero _)
  | succ n ih =>
    have ih' := CtxOK.nil.and (K := K_l11Find n) ih
    exact sound_of hm ((((ih'.and k_l11Vals).and k_l11Free).and k_l11Note).and k_l10Units) (fun x => A_l11Find x.1 x.2.1 x.2.2.1 x.2.2.2) (by kernel_rfl) fun (x : FX) hl => (by
      have hl1 := hl.1
      have hl2 := hl.2
      clear hl
      rw [← vc_l11Find n x]
      obtain ⟨c, f, log, ds⟩ := x
      obtain ⟨⟨hc, hz, hr⟩, hcost, hf, hlog⟩ : HOk c ds ∧ (Pl.hunt c ds).1 ≤ f ∧ f ≤ 130 ∧ log.length + f ≤ 1000 := hl1
      replace hl2 : 61 - ds.length < n + 1 := hl2
      dsimp only
      simp [-List.getD_eq_getElem?_getD, -List.mem_cons, -Bool.forall_bool, -Bool.exists_bool, and_assoc, peta, tl_inj, ex_1, ex_2, ex_3, ex_4, ex_5, ex_6, ex_7, ex_8, ex_9, ey_2, ey_3, ey_4, ey_5, ey_6, ey_7, ey_8, ey_9]
      have hds := Pl.rgt_len hc hr
      have hul := Pl.units_len c.2 ds
      have hc1 := (Pl.hunt_cost c ds).1
      refine ⟨fun h => by omega, fun h1 => ⟨hc, hz.1, hz.2, by omega, fun hb => ?_, fun hb => ⟨hc, by omega, fun hn => ⟨hc, by omega, ?_⟩, fun hn => ⟨⟨0, ?_, rfl, rfl⟩, fun i f' log' hI => ⟨fun hlt => ?_, fun hge => ?_⟩⟩⟩⟩⟩
      · rw [Pl.hunt_bad hc hr hb]
        exact ⟨by omega, by omega, Cg.wrap_small (by omega) (by omega), rfl, rfl, rfl⟩
      · rw [Pl.hunt_all hc hr hb hn]
        exact ⟨Cg.wrap_small (by omega) (by omega), rfl, rfl, rfl⟩
      · exact ⟨by omega, h1, Cg.wrap_small (by omega) (by omega), by simp [Pl.accL], fun h => absurd h (by omega), fun h => absurd h (by omega)⟩
      · obtain ⟨n1, n2, r1, r2⟩ := Pl.next_right hc hr hn
        have hm := Pl.cnfOk_many hc
        obtain ⟨w1, w2⟩ := Pl.choice (Pl.next c ds) n1 (by omega)
        have hcs := Pl.hunt_cases hc hr hb hn
        have c1 := (Pl.hunt_cost c (ds ++ [-Pl.next c ds]))
        have c2 := (Pl.hunt_cost c (ds ++ [Pl.next c ds]))
        obtain ⟨_, hacc, rfl, rfl, hi1, hi2⟩ := hI
        refine ⟨by omega, by omega, ?_⟩
        rcases (by omega : i = 0 ∨ i = 1) with rfl | rfl
        · rw [w1]
          have e0 : Pl.accC c ds 0 = 1 := rfl
          have e1 : Pl.accC c ds 1 = 1 + ((Pl.one c ds).1 : Int) := rfl
          have hle : 1 + ((Pl.one c ds).1 : Int) ≤ (Pl.hunt c ds).1 := by
            rcases hcs with ⟨_, e⟩ | ⟨_, _, e⟩ | ⟨_, _, e⟩ <;> rw [e] <;> push_cast <;> omega
          refine ⟨ds ++ [-Pl.next c ds], ((Rds.cel EncN.eI ds).join (Rds.row (ints_row _))).is, hc, hz.1, hz.2, r1, ?_, by omega, ?_, by simp; omega, fun hf1 => ?_, fun hf1 => ⟨fun hbad => ?_, fun _ => ⟨1, ?_, by omega, rfl⟩⟩⟩
          · show ((Pl.one c ds).1 : Int) ≤ _; omega
          · simp only [Pl.accL, List.append_nil]; omega
          · rcases hcs with ⟨_, e⟩ | ⟨g, _⟩ | ⟨g, _⟩
            · rw [e]
              refine ⟨?_, ?_, rfl, hf1⟩
              · show f - Pl.accC c ds 0 - ((Pl.one c ds).1 : Int) = f - ((1 + (Pl.one c ds).1 : Nat) : Int)
                push_cast; omega
              · simp only [Pl.accL, List.append_nil]; rfl
            · exact absurd hf1 (by rw [show (Pl.hunt c (ds ++ [-Pl.next c ds])).2.2.2 = false from g]; simp)
            · exact absurd hf1 (by rw [show (Pl.hunt c (ds ++ [-Pl.next c ds])).2.2.2 = false from g]; simp)
          · exfalso; change f - Pl.accC c ds 0 - ((Pl.one c ds).1 : Int) < 0 at hbad; omega
          · exact ⟨by omega, by rw [e1]; omega, by rw [e0, e1]; show f - 1 - ((Pl.one c ds).1 : Int) = _; omega, by simp only [Pl.accL, List.append_nil]; rfl, fun _ => hf1, fun h => absurd h (by omega)⟩
        · rw [w2]
          have g1 := hi1 (by omega)
          have e1 : Pl.accC c ds 1 = 1 + ((Pl.one c ds).1 : Int) := rfl
          have e2 : Pl.accC c ds 2 = 1 + ((Pl.one c ds).1 : Int) + ((Pl.two c ds).1 : Int) := rfl
          have hle : 1 + ((Pl.one c ds).1 : Int) + ((Pl.two c ds).1 : Int) ≤ (Pl.hunt c ds).1 := by
            rcases hcs with ⟨g, e⟩ | ⟨_, _, e⟩ | ⟨_, _, e⟩
            · rw [g1] at g; cases g
            · rw [e]; push_cast; omega
            · rw [e]; push_cast; omega
          have hlo : ((Pl.one c ds).2.1.length : Int) ≤ (Pl.one c ds).1 := by exact_mod_cast c1.2
          refine ⟨ds ++ [Pl.next c ds], ((Rds.cel EncN.eI ds).join (Rds.row (ints_row _))).is, hc, hz.1, hz.2, r2, ?_, by omega, ?_, by simp; omega, fun hf1 => ?_, fun hf1 => ⟨fun hbad => ?_, fun _ => ⟨2, ?_, by omega, rfl⟩⟩⟩
          · show ((Pl.two c ds).1 : Int) ≤ _; omega
          · simp only [Pl.accL, List.length_append]; push_cast; omega
          · rcases hcs with ⟨g, _⟩ | ⟨_, _, e⟩ | ⟨_, g, _⟩
            · rw [g1] at g; cases g
            · rw [e]
              refine ⟨?_, ?_, rfl, hf1⟩
              · show f - Pl.accC c ds 1 - ((Pl.two c ds).1 : Int) = f - ((1 + (Pl.one c ds).1 + (Pl.two c ds).1 : Nat) : Int)
                push_cast; omega
              · simp only [Pl.accL, List.append_assoc]; rfl
            · exact absurd hf1 (by rw [show (Pl.hunt c (ds ++ [Pl.next c ds])).2.2.2 = false from g]; simp)
          · exfalso; change f - Pl.accC c ds 1 - ((Pl.two c ds).1 : Int) < 0 at hbad; omega
          · exact ⟨by omega, by rw [e2]; omega, by rw [e1, e2]; show f - _ - ((Pl.two c ds).1 : Int) = _; omega, by simp only [Pl.accL, List.append_assoc]; rfl, fun _ => g1, fun _ => hf1⟩
      · obtain ⟨hi, hacc, rfl, rfl, hi1, hi2⟩ := hI
        have : i = 2 := by omega
        subst this
        have e2 : Pl.accC c ds 2 = 1 + ((Pl.one c ds).1 : Int) + ((Pl.two c ds).1 : Int) := rfl
        have c1 := (Pl.hunt_cost c (ds ++ [-Pl.next c ds])).2
        have c2 := (Pl.hunt_cost c (ds ++ [Pl.next c ds])).2
        have hlo : ((Pl.one c ds).2.1.length : Int) ≤ (Pl.one c ds).1 := by exact_mod_cast c1
        have hlt : ((Pl.two c ds).2.1.length : Int) ≤ (Pl.two c ds).1 := by exact_mod_cast c2
        rw [Pl.hunt_none hc hr hb hn (hi1 (by omega)) (hi2 (by omega))]
        refine ⟨by simp only [Pl.accL, List.length_append]; omega, by omega, ?_, ?_, rfl, rfl⟩
        · show f - Pl.accC c ds 2 = f - ((1 + (Pl.one c ds).1 + (Pl.two c ds).1 : Nat) : Int)
          push_cast; omega
        · simp only [Pl.accL, List.append_assoc])
theorem k_l11Walk0 (n : Nat) : SoundC Try.prog (K_l11Walk n).1 (K_l11Walk n).2 := by
  induction n with
  | zero => exact sound_of hm CtxOK.nil (fun _ => []) (by kernel_rfl) fun x hx => absurd hx.2 (Nat.not_lt_zero _)
  | succ n ih =>
    have ih' := CtxOK.nil.and (K := K_l11Walk n) ih
    exact sound_of hm ((ih'.and k_l11Free).and k_l10Units) (fun x => A_l11Walk x.1 x.2.1 x.2.2) (by kernel_rfl) fun (x : WX) hl => (by
      have hl1 := hl.1
      have hl2 := hl.2
      clear hl
      rw [← vc_l11Walk n x]
      obtain ⟨c, most, ds⟩ := x
      obtain ⟨⟨hc, hz, hr⟩, hm1, hm2⟩ : HOk c ds ∧ 1 ≤ most ∧ most ≤ 131 := hl1
      replace hl2 : 61 - ds.length < n + 1 := hl2
      dsimp only
      simp [-List.getD_eq_getElem?_getD, -List.mem_cons, -Bool.forall_bool, -Bool.exists_bool, and_assoc, peta, tl_inj, ex_1, ex_2, ex_3, ex_4, ex_5, ex_6, ex_7, ex_8, ex_9, ey_2, ey_3, ey_4, ey_5, ey_6, ey_7, ey_8, ey_9]
      have hds := Pl.rgt_len hc hr
      have hul := Pl.units_len c.2 ds
      refine ⟨hc, hz.1, hz.2, by omega, hc, by omega, fun hb => ⟨fun h => (by rw [hb] at h; cases h), fun _ => ?_⟩, fun hb => ⟨fun hn => ⟨fun _ => ?_, fun h => (by rw [hb] at h; cases h)⟩, fun hn => ?_⟩⟩
      · rw [Pl.walk_le (by rw [Pl.hunt_bad hc hr hb]; exact hm1), Pl.hunt_bad hc hr hb]
        exact ⟨rfl, rfl⟩
      · rw [Pl.walk_le (by rw [Pl.hunt_all hc hr hb hn]; exact hm1), Pl.hunt_all hc hr hb hn]
        exact ⟨rfl, beq_iff_eq.2 hn⟩
      · have hn' : Pl.next c ds ≠ 0 := hn
        obtain ⟨n1, n2, r1, r2⟩ := Pl.next_right hc hr hn'
        have hm := Pl.cnfOk_many hc
        obtain ⟨w1, w2⟩ := Pl.choice (Pl.next c ds) n1 (by omega)
        have hcs := Pl.hunt_cases hc hr hb hn'
        have c1 : 1 ≤ ((Pl.one c ds).1 : Int) := by exact_mod_cast (Pl.hunt_cost c (ds ++ [-Pl.next c ds])).1
        have c2 : 1 ≤ ((Pl.two c ds).1 : Int) := by exact_mod_cast (Pl.hunt_cost c (ds ++ [Pl.next c ds])).1
        have e1 : Pl.accC c ds 1 = 1 + ((Pl.one c ds).1 : Int) := rfl
        have e2 : Pl.accC c ds 2 = 1 + ((Pl.one c ds).1 : Int) + ((Pl.two c ds).1 : Int) := rfl
        have hge : 1 + ((Pl.one c ds).1 : Int) ≤ (Pl.hunt c ds).1 := by
          rcases hcs with ⟨_, e⟩ | ⟨_, _, e⟩ | ⟨_, _, e⟩ <;> rw [e] <;> push_cast <;> omega
        have hge2 : (Pl.one c ds).2.2.2 = false → ((Pl.hunt c ds).1 : Int) = Pl.accC c ds 2 := fun g => by
          rcases hcs with ⟨g', e⟩ | ⟨_, _, e⟩ | ⟨_, _, e⟩
          · rw [g] at g'; cases g'
          · rw [e, e2]; push_cast; rfl
          · rw [e, e2]; push_cast; rfl
        refine ⟨fun hm3 => ⟨fun _ => ?_, fun h => (by rw [hb] at h; cases h)⟩, fun hm3 => ⟨⟨0, .inl ⟨rfl, rfl⟩, rfl, rfl⟩, fun i b hI => ⟨fun hlt => ⟨fun hbm => ?_, fun hbm => ?_⟩, fun hge3 => ?_⟩⟩⟩
        · rw [Pl.walk_gt (by omega)]
          exact ⟨by show (1 : Int) = most; omega, by simpa using hn⟩
        · refine ⟨by omega, by omega, ?_⟩
          rcases hI with ⟨rfl, rfl⟩ | ⟨rfl, h⟩ | ⟨rfl, _⟩
          · rw [w1, Cg.wrap_small (by omega) (by omega)]
            have ew : Pl.walk c (most - 1) (ds ++ [-Pl.next c ds]) = if ((Pl.one c ds).1 : Int) ≤ most - 1 then (((Pl.one c ds).1 : Int), (Pl.one c ds).2.2.2) else (most - 1, false) := rfl
            refine ⟨ds ++ [-Pl.next c ds], ((Rds.cel EncN.eI ds).join (Rds.row (ints_row _))).is, hc, hz.1, hz.2, r1, by omega, by omega, by simp; omega, ?_⟩
            rw [ew]
            by_cases hk : ((Pl.one c ds).1 : Int) ≤ most - 1
            · rw [if_pos hk]
              refine ⟨fun hf => ?_, fun hf => ⟨1, .inr (.inl ⟨rfl, .inl ⟨?_, by rw [e1]; omega, hf⟩⟩), by omega, rfl⟩⟩
              · rcases hcs with ⟨_, e⟩ | ⟨g, _⟩ | ⟨g, _⟩
                · rw [Pl.walk_le (by rw [e]; push_cast; omega), e]
                  exact ⟨by show IntKind.i64.wrap (1 + ((Pl.one c ds).1 : Int)) = ((1 + (Pl.one c ds).1 : Nat) : Int); rw [Cg.wrap_small (by omega) (by omega)]; push_cast; rfl, rfl⟩
                · rw [g] at hf; cases hf
                · rw [g] at hf; cases hf
              · rw [e1]; exact Cg.wrap_small (by omega) (by omega)
            · rw [if_neg hk]
              refine ⟨fun hf => (by cases hf), fun _ => ⟨1, .inr (.inl ⟨rfl, .inr ⟨?_, by rw [e1]; omega⟩⟩), by omega, rfl⟩⟩
              show IntKind.i64.wrap (1 + (most - 1)) = most
              rw [Cg.wrap_small (by omega) (by omega)]; omega
          · rcases h with ⟨rfl, h2, g1⟩ | ⟨rfl, h2⟩
            · rw [w2, Cg.wrap_small (x := most - _) (by rw [e1]; omega) (by rw [e1]; omega)]
              have ew : Pl.walk c (most - Pl.accC c ds 1) (ds ++ [Pl.next c ds]) = if ((Pl.two c ds).1 : Int) ≤ most - Pl.accC c ds 1 then (((Pl.two c ds).1 : Int), (Pl.two c ds).2.2.2) else (most - Pl.accC c ds 1, false) := rfl
              refine ⟨ds ++ [Pl.next c ds], ((Rds.cel EncN.eI ds).join (Rds.row (ints_row _))).is, hc, hz.1, hz.2, r2, by omega, by rw [e1]; omega, by simp; omega, ?_⟩
              rw [ew]
              by_cases hk : ((Pl.two c ds).1 : Int) ≤ most - Pl.accC c ds 1
              · rw [if_pos hk]
                refine ⟨fun hf => ?_, fun hf => ⟨2, .inr (.inr ⟨rfl, g1, .inl ⟨?_, by rw [e2]; rw [e1] at hk; omega, hf⟩⟩), by omega, rfl⟩⟩
                · rcases hcs with ⟨g, _⟩ | ⟨_, _, e⟩ | ⟨_, g, _⟩
                  · rw [g1] at g; cases g
                  · rw [Pl.walk_le (by rw [hge2 g1, e2]; rw [e1] at hk; omega), e]
                    exact ⟨by show IntKind.i64.wrap (Pl.accC c ds 1 + ((Pl.two c ds).1 : Int)) = ((1 + (Pl.one c ds).1 + (Pl.two c ds).1 : Nat) : Int); rw [e1, Cg.wrap_small (by omega) (by rw [e1] at hk; omega)]; push_cast; rfl, rfl⟩
                  · rw [g] at hf; cases hf
                · rw [e2, e1]; rw [e1] at hk; exact Cg.wrap_small (by omega) (by omega)
              · rw [if_neg hk]
                refine ⟨fun hf => (by cases hf), fun _ => ⟨2, .inr (.inr ⟨rfl, g1, .inr ⟨?_, by rw [e2]; rw [e1] at hk; omega⟩⟩), by omega, rfl⟩⟩
                show IntKind.i64.wrap (Pl.accC c ds 1 + (most - Pl.accC c ds 1)) = most
                rw [Cg.wrap_small (by omega) (by omega)]; omega
            · omega
          · omega
        · rcases hI with ⟨rfl, rfl⟩ | ⟨rfl, h⟩ | ⟨rfl, _⟩
          · omega
          · rcases h with ⟨rfl, h2, g1⟩ | ⟨rfl, h2⟩
            · rw [Pl.walk_gt (by rw [hge2 g1, e2]; rw [e1] at hbm; omega)]
              exact ⟨by show Pl.accC c ds 1 = most; omega, rfl⟩
            · rw [Pl.walk_gt (by rw [e1] at h2; omega)]
              exact ⟨rfl, rfl⟩
          · omega
        · rcases hI with ⟨rfl, rfl⟩ | ⟨rfl, h⟩ | ⟨rfl, g1, h⟩
          · omega
          · omega
          · rcases h with ⟨rfl, h2, g2⟩ | ⟨rfl, h2⟩
            · rw [Pl.walk_le (by rw [hge2 g1]; exact h2), Pl.hunt_none hc hr hb hn' g1 g2]
              exact ⟨by rw [e2]; push_cast; rfl, rfl⟩
            · rw [Pl.walk_gt (by rw [hge2 g1]; exact h2)]
              exact ⟨rfl, rfl⟩)
theorem k_l11FindA : SoundC Try.prog K_l11FindA.1 K_l11FindA.2 := SoundC.famF (fun x : FX => 61 - x.2.2.2.length) fun n => k_l11Find0 n
theorem k_l11WalkA : SoundC Try.prog K_l11WalkA.1 K_l11WalkA.2 := SoundC.fam (fun x : WX => 61 - x.2.2.length) fun n => k_l11Walk0 n
theorem k_l11Cost : SoundC Try.prog K_l11Cost.1 K_l11Cost.2 := sound_of hm (CtxOK.nil.and k_l11WalkA) (fun _ => []) (by kernel_rfl) fun (c, most) hl => (by
  obtain ⟨hc, hz, h1, h2⟩ : Pl.cnfOk c = true ∧ SzC c ∧ 0 ≤ most ∧ most ≤ 130 := hl
  rw [← vc_l11Cost c most]
  simp [-List.getD_eq_getElem?_getD, -List.mem_cons, -Bool.forall_bool, -Bool.exists_bool, and_assoc, peta, tl_inj, ex_1, ex_2, ex_3, ex_4, ex_5, ex_6, ex_7, ex_8, ex_9, ey_2, ey_3, ey_4, ey_5, ey_6, ey_7, ey_8, ey_9]
  refine ⟨fun h => (if_pos h).symm, fun h => ⟨[], Is_sl_of rfl fun i hi => absurd hi (Nat.not_lt_zero i), hc, hz.1, hz.2, Pl.rgt_nil c, ?_⟩⟩
  rw [Cg.wrap_small (by omega) (by omega)]
  exact ⟨by omega, by omega, (if_neg (by omega)).symm⟩)
theorem search_no {c : Pl.Cnf} {f : Int} (h0 : 0 ≤ f) (h : f < Pl.costOf c f) : Pl.search c f = (-1, [], [], false) := by
  have hcst := (Pl.hunt_cost c []).1
  unfold Pl.search
  rw [if_neg]
  unfold Pl.costOf at h
  split at h
  · omega
  · intro hle
    rw [Pl.walk_le (by omega)] at h
    change f < ((Pl.hunt c []).1 : Int) at h
    omega
theorem search_yes {c : Pl.Cnf} {f : Int} (h0 : 0 ≤ f) (h : Pl.costOf c f ≤ f) : ((Pl.hunt c []).1 : Int) ≤ f ∧ Pl.search c f = (f - (Pl.hunt c []).1, (Pl.hunt c []).2.1, (Pl.hunt c []).2.2.1, (Pl.hunt c []).2.2.2) := by
  have hle : ((Pl.hunt c []).1 : Int) ≤ f := by
    unfold Pl.costOf at h
    split at h
    · omega
    · by_cases hk : ((Pl.hunt c []).1 : Int) ≤ f + 1
      · rw [Pl.walk_le hk] at h; exact h
      · rw [Pl.walk_gt (by omega)] at h; change f + 1 ≤ f at h; omega
  unfold Pl.search
  rw [if_pos hle]
  exact ⟨hle, rfl⟩
theorem g_l11Search (c : Pl.Cnf) (f : Int) (hc : Pl.cnfOk c = true) (hz : SzC c) (h1 : 0 ≤ f) (h2 : f ≤ 130) : GoalW Try.prog [K_l11Cost, K_l11FindA] ([]) K_l11Search.1 K_l11Search.2 (c, f) := GoalW.of (vc_l11Search c f) (by
  simp [-List.getD_eq_getElem?_getD, -List.mem_cons, -Bool.forall_bool, -Bool.exists_bool, and_assoc, peta, tl_inj, ex_1, ex_2, ex_3, ex_4, ex_5, ex_6, ex_7, ex_8, ex_9, ey_2, ey_3, ey_4, ey_5, ey_6, ey_7, ey_8, ey_9]
  refine ⟨hc, hz.1, hz.2, h1, h2, fun h => ?_, fun h => ?_⟩
  · rw [search_no h1 h]; exact ⟨rfl, rfl, rfl, rfl⟩
  · obtain ⟨hle, e⟩ := search_yes h1 h
    rw [e]
    exact ⟨hc, hz.1, hz.2, Pl.rgt_nil c, hle, h2, by omega, rfl, rfl, rfl, rfl⟩)
theorem k_l11Search : SoundC Try.prog K_l11Search.1 K_l11Search.2 := sound_ofW hm ((CtxOK.nil.and k_l11FindA).and k_l11Cost) (fun _ => []) (by kernel_rfl) fun x hl => g_l11Search x.1 x.2 hl.1 hl.2.1 hl.2.2.1 hl.2.2.2
theorem run_yes {c : Pl.Cnf} {f : Int} (hc : Pl.cnfOk c = true) (h0 : 0 ≤ f) (h1 : f ≤ 130) (h : ((Pl.hunt c []).1 : Int) ≤ f) : Pl.huntRun c f = if (Pl.hunt c []).2.2.2 = true then ((Pl.hunt c []).2.2.1, [], true) else if c.2.length + (Pl.hunt c []).2.1.length > 400 then ([], [], false) else ([], (Pl.hunt c []).2.1, true) := by
  unfold Pl.huntRun; rw [if_pos ⟨hc, h0, h1, h⟩]
theorem run_no {c : Pl.Cnf} {f : Int} (h : ¬ (Pl.cnfOk c = true ∧ 0 ≤ f ∧ f ≤ 130 ∧ ((Pl.hunt c []).1 : Int) ≤ f)) : (Pl.huntRun c f).1 = [] ∧ (Pl.huntRun c f).2.1 = [] ∧ (Pl.huntRun c f).2.2 = false := by
  unfold Pl.huntRun; rw [if_neg h]; exact ⟨rfl, rfl, rfl⟩
theorem k_sHuntRun : SoundC Try.prog K_sHuntRun.1 K_sHuntRun.2 := sound_of hm ((CtxOK.nil.and k_l11Search).and k_sCnfOk) (fun _ => []) (by kernel_rfl) fun (x : Pl.Cnf × Int) hl => (by
  obtain ⟨c, f⟩ := x
  replace hl : SzC c := hl
  rw [← vc_sHuntRun c f]
  simp [-List.getD_eq_getElem?_getD, -List.mem_cons, -Bool.forall_bool, -Bool.exists_bool, and_assoc, peta, tl_inj, ex_1, ex_2, ex_3, ex_4, ex_5, ex_6, ex_7, ex_8, ex_9, ey_2, ey_3, ey_4, ey_5, ey_6, ey_7, ey_8, ey_9]
  refine ⟨hl.1, hl.2, fun h => run_no fun e => (by rw [h] at e; cases e.1), fun hc => ⟨fun h => run_no fun e => by omega, fun h0 => ⟨fun h => run_no fun e => by omega, fun h1 => ⟨hc, hl.1, hl.2, h0, h1, ?_⟩⟩⟩⟩
  by_cases hle : ((Pl.hunt c []).1 : Int) ≤ f
  · have e : Pl.search c f = (f - (Pl.hunt c []).1, (Pl.hunt c []).2.1, (Pl.hunt c []).2.2.1, (Pl.hunt c []).2.2.2) := if_pos hle
    have h2 := (Pl.hunt_cost c []).2
    rw [e, run_yes hc h0 h1 hle, Cg.wrap_small (by dsimp only; omega) (by dsimp only; have := hl.1; omega)]
    dsimp only
    refine ⟨fun h => by rw [if_pos h]; exact ⟨rfl, rfl, rfl⟩, fun h => ⟨fun h3 => by omega, fun _ => ⟨fun h3 => ?_, fun h3 => ?_⟩⟩⟩
    · rw [if_neg (by rw [h]; simp), if_pos (by omega)]; exact ⟨rfl, rfl, rfl⟩
    · rw [if_neg (by rw [h]; simp), if_neg (by omega)]; exact ⟨rfl, rfl, rfl⟩
  · have e : Pl.search c f = (-1, [], [], false) := if_neg hle
    rw [e]
    exact ⟨fun h => (by cases h), fun _ => ⟨fun _ => run_no fun e => hle e.2.2.2, fun h => absurd h (by decide)⟩⟩)
end Cg

/-
  The codes' contracts: the law that searches are exact. No condition.
-/
set_option linter.unusedVariables false
set_option linter.unusedSimpArgs false
set_option maxRecDepth 100000
namespace Cg
open Go Go.Proofs Pl
theorem xrII_push' {l : List (List Int)} {k : Nat} {v : List Int} {a : AV} (hk : k = l.length) (h : IsX a (ints v)) : IsO (.xarr (k + 1) 1 (joinC k (cII l) (rowsCell [[a]]))) (xrII (l ++ [v])) := by
  subst hk
  refine ⟨rfl, by simp, fun i hi j hj => ?_⟩
  have hj0 : j = 0 := by omega
  subst hj0
  by_cases h' : i < l.length
  · have e1 : (l ++ [v]).getD i [] = l.getD i [] := by simp only [List.getD_eq_getElem?_getD, List.getElem?_append_left h']
    show IsX (joinC l.length (cII l) (rowsCell [[a]]) i 0) (eII ((l ++ [v]).getD i []) 0)
    unfold joinC
    rw [blt_true h', e1]
    exact IsX_ints
  · have hi' : i = l.length := by omega
    subst hi'
    have e1 : (l ++ [v]).getD l.length [] = v := by simp
    show IsX (joinC l.length (cII l) (rowsCell [[a]]) l.length 0) (eII ((l ++ [v]).getD l.length []) 0)
    unfold joinC
    rw [blt_false h', e1, Nat.sub_self]
    exact h
theorem IsX_pre {v y : List Int} : IsX (.sl v.length 1 (cI (v ++ y))) (ints v) := ⟨rfl, rfl, fun i hi j hj => by
  have e : (v ++ y).getD i 0 = v.getD i 0 := by simp only [List.getD_eq_getElem?_getD, List.getElem?_append_left hi]
  show Is (eI ((v ++ y).getD i 0) j) (eI (v.getD i 0) j)
  rw [e]
  exact EncN.eI.self _ hj⟩
/-- A callee that is handed what the caller owned, for good. -/
theorem SoundE.give {P : Program} {f : FuncId} {X : Type} {enc : X → List AV} {pre : X → Prop} {res : X → AV} (hs : ∀ x : X, pre x → PureAt P f (enc x) (res x)) (hm : ∀ x k, ment k (res x) = false)
    {X' : Type} (g : X' → X) (fr : X' → List AV) (Hs : X' → List AObj) (hv : ∀ x, ∃ q, viewL (view2 (Hs x)) (fr x) = (q, enc (g x)) ∧ ∀ p ∈ q, p) :
    SoundE P f X' (fun x => ⟨fr x, Hs x⟩) (fun x => pre (g x)) Unit (fun _ _ => True) fun x _ => (res (g x), (Hs x).map fun _ => .dead) := by
  intro x hp S μ w vals hok hrel
  obtain ⟨q, hq, hq'⟩ := hv x
  have hok : HOK S μ w (Hs x) := hok
  have hrel : RelL S μ w (fr x) vals := hrel
  have hva := view_args hok (by rw [hq]; exact hq') hrel
  rw [hq] at hva
  refine (hs (g x) hp (Lent S μ (Hs x)) w vals (lent_lt hok) (hok.gl.mono (fun _ h => .inl h) fun _ _ => rfl) hva).mono fun en w' he => ?_
  obtain ⟨y, S', rfl, h1, h2, h3, h4, h5⟩ := he
  have hdead : ∀ (o : Nat) (z : AObj), ((Hs x).map fun _ => AObj.dead)[o]? = some z → z = .dead := fun o z hz => by
    rw [List.getElem?_map] at hz
    cases hh : (Hs x)[o]? with
    | none => rw [hh] at hz; cases hz
    | some u => rw [hh] at hz; exact (Option.some.inj hz).symm
  have hno : ∀ o b, ¬ Own μ ((Hs x).map fun _ => AObj.dead) o b := fun o b ⟨z, hz, hb⟩ => by
    rw [hdead o z hz] at hb; exact hb
  refine ⟨y, (), S', μ, rfl, trivial, ?_, Rel_mono (fun _ h => h) (fun _ _ => rfl) _ _ (fun k hk => by rw [hm] at hk; cases hk) h5⟩
  exact {
    sub := fun b hb => h2 b (.inl hb)
    new := fun b hb => by
      rcases h3 b hb with (h | h) | h
      · exact .inl h
      · exact .inr (.inr h)
      · exact .inr (.inl h)
    mu := fun o ho => rfl
    len := by simp
    kept := ⟨h1.os, h1.tape, h1.output, h1.size, fun b hb _ => h1.block b hb⟩
    mine := fun o b h => absurd h (hno o b)
    hok := {
      obj := fun o z ho => by rw [hdead o z ho]; trivial
      ids := fun o cs ho => by cases hdead o _ ho
      seps := fun o o' b _ h => absurd h (hno o b)
      owns := fun o b h => absurd h (hno o b)
      inS := h4
      gl := hok.gl.mono (fun b hb => h2 b (.inl hb)) fun b hb => h1.block b (hok.inS b hb) } }
set_option maxHeartbeats 8000000 in
theorem g_negatedO (l : List Int) (h1 : SzH l) : GoalW Try.prog [] (A_negated l) K_negatedO.1 K_negatedO.2 (l) := GoalW.of (vc_negatedO l) (by
  simp (maxSteps := 2000000) [-List.getD_eq_getElem?_getD, -List.mem_cons, -Bool.forall_bool, -Bool.exists_bool, and_assoc, peta, tl_inj, ex_1, ex_2, ex_3, ex_4, ex_5, ex_6, ex_7, ex_8, ex_9, ey_2, ey_3, ey_4, ey_5, ey_6, ey_7, ey_8, ey_9]
  have hl : l.length ≤ 2147483648 := h1
  refine ⟨⟨0, by simp, [], rfl, by simp, rfl, rfl, rfl⟩, fun k b hk hb he => ⟨fun hlt => ⟨hlt, by omega, k + 1, hlt, b ++ [Pl.wneg (l.getD k 0)], by simp [hb], ?_, by omega, by simp, by rw [wrap_small (by omega) (by omega)]; omega, ?_⟩, fun hge => ?_⟩⟩
  · rw [he, drop_get 0 hlt]; simp [Pl.nots]
  · have e : IntKind.i64.wrap (-l.getD k 0) = Pl.wneg (l.getD k 0) := by unfold Pl.wneg; congr 1; omega
    rw [e]; exact ints_push
  · have e : Pl.nots l = b := by rw [he, drop_end (by omega)]; simp [Pl.nots]
    rw [e]; exact ⟨rfl, .inr rfl⟩)
theorem k_negatedO : SoundC Try.prog K_negatedO.1 K_negatedO.2 := sound_ofW hm CtxOK.nil (fun (l : List Int) => A_negated l) (by kernel_rfl) fun (l : List Int) hb => g_negatedO l hb
theorem k_hcallO0 (n : Nat) : SoundC Try.prog (K_hcallO n).1 (K_hcallO n).2 := by
  induction n with
  | zero => exact sound_of hm CtxOK.nil (fun _ => []) (by kernel_rfl) fun x hx => absurd hx.2 (Nat.not_lt_zero _)
  | succ n ih =>
    have ih' := CtxOK.nil.and k_iClauseOfO
    exact sound_of hm (((((ih'.and k_negatedO).and (K := K_hcallO n) ih).and k_Clone).and k_Contains).and k_units) (fun x => A_hcallO x.1 x.2.1 x.2.2.1 x.2.2.2) (by kernel_rfl) fun (x : FX) hl => (by
      have hl1 := hl.1
      have hl2 := hl.2
      clear hl
      rw [← vc_hcallO n x]
      obtain ⟨c, f, log, ds⟩ := x
      obtain ⟨⟨hc, hz, hr⟩, h0, hf, hlog⟩ : HOk c ds ∧ 0 ≤ f ∧ f ≤ 130 ∧ log.length + f ≤ 1000 := hl1
      replace hl2 : 61 - ds.length < n + 1 := hl2
      dsimp only
      simp [-List.getD_eq_getElem?_getD, -List.mem_cons, -Bool.forall_bool, -Bool.exists_bool, and_assoc, peta, tl_inj, ex_1, ex_2, ex_3, ex_4, ex_5, ex_6, ex_7, ex_8, ex_9, ey_2, ey_3, ey_4, ey_5, ey_6, ey_7, ey_8, ey_9]
      have hds := Pl.rgt_len hc hr
      obtain ⟨hc1, hc2⟩ := Pl.hunt_cost c ds
      have hm := Pl.cnfOk_many hc
      have hnl := Pl.nots_len' ds
      refine ⟨fun e => ⟨0, log, true, [], false, ⟨fun h => absurd h (by omega), fun _ => ⟨rfl, rfl, rfl⟩⟩, rfl, rfl, e, rfl, rfl, xrII_self, rfl⟩, fun hf0 => ?_⟩
      have hw : IntKind.i64.wrap (f - 1) = f - 1 := Cg.wrap_small (by omega) (by omega)
      rw [Pl.units_put hc hr, hw]
      refine ⟨⟨c.1, hc⟩, hz.1, hz.2, by omega, fun hb => ?_, fun hb => ⟨by omega, Pl.nots ds, by omega, rfl, .inr rfl, fun y => ⟨by omega, f - 1, log ++ [Pl.note ds], false, [], false, ⟨fun _ => by rw [Pl.hunt_bad hc hr hb]; rfl, fun h => absurd h (by rw [Pl.hunt_bad hc hr hb]; show ¬ f < ((1 : Nat) : Int); omega)⟩, rfl, rfl, rfl, by simp, rfl, xrII_push' rfl IsX_pre, rfl⟩⟩⟩
      obtain ⟨_, u2⟩ := Pl.units_fix hc 61 ds (Pl.uncov_le ds) hr hb
      change Pl.Rgt c (Pl.unitsS c.2 ds).1 at u2
      have hp := Pl.rgt_cons hc u2
      have hul := Pl.units_len c.2 ds
      refine ⟨hm.1, by omega, ⟨c.1.toNat, by omega, rfl, by rw [Pl.marks_end (by omega)]; rfl, by rw [Pl.marks_end (by omega)]; simp [Pl.valsL], by omega, rfl, ?_⟩, fun k free out hk hfr hout => ⟨fun hk0 => ?_, fun hk0 => ?_⟩⟩
      · rw [Pl.marks_end (by omega)]
        show IsO _ (arB (List.replicate _ false ++ []))
        rw [List.append_nil]
        exact bools_make
      · clear hc1 hc2 hnl hb u2 hlog hl2 hz
        generalize (Pl.unitsS c.2 ds).1 = put at *
        obtain ⟨j, rfl⟩ : ∃ j, k = j + 1 := ⟨k - 1, by omega⟩
        have ej : ((j + 1 : Nat) : Int) = (j : Int) + 1 := by push_cast; rfl
        have ew : IntKind.i64.wrap (((j + 1 : Nat) : Int) - 1) = (j : Int) := by rw [Cg.wrap_small (by omega) (by omega)]; omega
        have en : IntKind.i64.wrap (-((j + 1 : Nat) : Int)) = -((j : Int) + 1) := by rw [Cg.wrap_small (by omega) (by omega)]; omega
        rw [ew, en, Int.toNat_natCast, ej]
        have hv : (Pl.valsL put ((Pl.marks c.1).drop j)).length = (Pl.valsL put ((Pl.marks c.1).drop (j + 1))).length + 1 := by
          rw [Pl.valsL_cons (by omega)]; rfl
        have hlen : out.length = j + 1 + (Pl.valsL put ((Pl.marks c.1).drop (j + 1))).length := by rw [hout]; simp
        refine ⟨by omega, fun hin => ⟨by omega, by omega, by omega, j, by omega, by omega, ?_, by omega, rfl, ?_⟩, fun hin => ⟨by omega, fun hni => ⟨j, by omega, by omega, (Pl.down_no (by omega) hm.2 hin hni).1, by omega, rfl, .inr ?_⟩, fun hni => ⟨j, by omega, by omega, ?_, by omega, rfl, .inr ?_⟩⟩⟩
        · rw [hfr]; exact (Pl.down_in hp (by omega) hm.2 hin).1
        · have := bools_set (l := out) (i := j) (v := true)
          rw [hout, (Pl.down_in hp (by omega) hm.2 hin).2] at this
          rw [hout]; exact this
        · rw [hout]; exact (Pl.down_no (by omega) hm.2 hin hni).2
        · rw [hfr]; exact (Pl.down_neg (by omega) hm.2 hin hni).1
        · rw [hout]; exact (Pl.down_neg (by omega) hm.2 hin hni).2
      · subst hk0
        change free = Pl.next c ds at hfr
        change out = Pl.valsL (Pl.unitsS c.2 ds).1 (Pl.marks c.1) at hout
        subst hfr
        refine ⟨fun hn => ⟨f - 1, log, false, Pl.valsL (Pl.unitsS c.2 ds).1 (Pl.marks c.1), true, ⟨fun _ => by rw [Pl.hunt_all hc hr hb hn, List.append_nil]; rfl, fun h => absurd h (by rw [Pl.hunt_all hc hr hb hn]; show ¬ f < ((1 : Nat) : Int); omega)⟩, by rw [hout], rfl, rfl, rfl, rfl, xrII_self, .inr hout⟩, fun hn => ?_⟩
        obtain ⟨n1, n2, r1, r2⟩ := Pl.next_right hc hr hn
        refine ⟨⟨0, f - 1, log, ⟨by omega, by show (1 : Int) ≤ f; omega, rfl, by simp [Pl.accL], fun h => absurd h (by omega), fun h => absurd h (by omega)⟩, Cg.wrap_small (by omega) (by omega), rfl, rfl, rfl, rfl, xrII_self⟩, fun i f' log' hI => ⟨fun hlt => ?_, fun hge => ?_⟩⟩
        · have hx : ∃ x, [-Pl.next c ds, Pl.next c ds].getD i 0 = x ∧ Pl.Rgt c (ds ++ [x]) ∧ (i = 0 ∧ ds ++ [x] = ds ++ [-Pl.next c ds] ∨ i = 1 ∧ ds ++ [x] = ds ++ [Pl.next c ds]) := by
            rcases (by omega : i = 0 ∨ i = 1) with rfl | rfl
            · exact ⟨_, rfl, r1, .inl ⟨rfl, rfl⟩⟩
            · exact ⟨_, rfl, r2, .inr ⟨rfl, rfl⟩⟩
          obtain ⟨x, hx, hrx, hix⟩ := hx
          have hI' := hI
          have hal := Pl.acc_len c ds i (by omega)
          obtain ⟨_, hacc, e1, e2, _, _⟩ := hI
          have hll : log'.length = log.length + (Pl.accL c ds i).length := by rw [e2]; simp
          rw [hx]
          refine ⟨hlt, by omega, by omega, by omega, c.1, c.2, hc, hz.1, hz.2, f', log', ds ++ [x], hrx, by omega, by omega, by omega, by simp; omega, ((Rds.cel EncN.eI ds).join (Rds.row (ints_row _))).is, rfl, rfl, rfl, rfl, xrII_self, fun a l out v ok hP => ?_⟩
          obtain ⟨p1, p2⟩ := Pl.huntP_up hc hr hb hn hI' hix hP
          exact ⟨fun h => ⟨a, l, out, v, p1 (.inl h), rfl, rfl, rfl, rfl, rfl, rfl, xrII_self, .inr rfl⟩, fun h => ⟨fun h' => ⟨a, l, out, v, p1 (.inr h'), rfl, rfl, rfl, rfl, rfl, rfl, xrII_self, .inr rfl⟩, fun h' => ⟨i + 1, a, l, p2 h h', by omega, (Enc.ints [-Pl.next c ds, Pl.next c ds] _).2 rfl, by rw [Cg.wrap_small (by omega) (by omega)]; push_cast; rfl, rfl, rfl, rfl, rfl, h', xrII_self⟩⟩⟩
        · obtain ⟨hi, hacc, rfl, rfl, hi1, hi2⟩ := hI
          have : i = 2 := by omega
          subst this
          have e := Pl.hunt_none hc hr hb hn (hi1 (by omega)) (hi2 (by omega))
          have e2 : Pl.accC c ds 2 = 1 + ((Pl.one c ds).1 : Int) + ((Pl.two c ds).1 : Int) := rfl
          have c1 := (Pl.hunt_cost c (ds ++ [-Pl.next c ds])).2
          have c2 := (Pl.hunt_cost c (ds ++ [Pl.next c ds])).2
          have hlo : ((Pl.one c ds).2.1.length : Int) ≤ (Pl.one c ds).1 := by exact_mod_cast c1
          have hlt : ((Pl.two c ds).2.1.length : Int) ≤ (Pl.two c ds).1 := by exact_mod_cast c2
          have hll : (Pl.accL c ds 2).length = (Pl.one c ds).2.1.length + (Pl.two c ds).2.1.length := by simp [Pl.accL]
          refine ⟨by omega, Pl.nots ds, by omega, rfl, .inr rfl, fun y => ⟨by rw [List.length_append]; omega, f - Pl.accC c ds 2, log ++ Pl.accL c ds 2 ++ [Pl.note ds], false, [], false, ⟨fun _ => ?_, fun h => absurd h (by rw [e]; push_cast; omega)⟩, rfl, rfl, rfl, by simp only [List.length_append, List.length_singleton], rfl, xrII_push' rfl IsX_pre, rfl⟩⟩
          rw [e]
          refine Prod.ext ?_ (Prod.ext (by simp [Pl.accL]) rfl)
          show f - Pl.accC c ds 2 = f - ((1 + (Pl.one c ds).1 + (Pl.two c ds).1 : Nat) : Int)
          push_cast; omega)
theorem k_hcallOA : SoundC Try.prog K_hcallOA.1 K_hcallOA.2 := SoundC.famZ (fun x : FX => 61 - x.2.2.2.length) fun n => k_hcallO0 n
set_option maxHeartbeats 8000000 in
theorem g_iHuntRunO (c : Pl.Cnf) (f : Int) (h1 : SzC c) : GoalW Try.prog [K_iCnfOk, K_within, K_hcallOA] ([]) K_iHuntRunO.1 K_iHuntRunO.2 ((c, f)) := GoalW.of (vc_iHuntRunO c f) (by
  have hl : SzC c := h1
  simp (maxSteps := 2000000) [-List.getD_eq_getElem?_getD, -List.mem_cons, -Bool.forall_bool, -Bool.exists_bool, and_assoc, peta, tl_inj, ex_1, ex_2, ex_3, ex_4, ex_5, ex_6, ex_7, ex_8, ex_9, ey_2, ey_3, ey_4, ey_5, ey_6, ey_7, ey_8, ey_9]
  have no : ¬ (Pl.cnfOk c = true ∧ 0 ≤ f ∧ f ≤ 130 ∧ ((Pl.hunt c []).1 : Int) ≤ f) → (Pl.huntRun c f).1 = [] ∧ (Pl.huntRun c f).2.1 = [] ∧ (Pl.huntRun c f).2.2 = false ∧ (Pl.huntRun c f).1 = [] ∧ (Pl.huntRun c f).2.1 = [] := fun h => by
    obtain ⟨e1, e2, e3⟩ := run_no h
    exact ⟨e1, e2, e3, e1, e2⟩
  refine ⟨hl.1, hl.2, fun h => no fun e => (by rw [h] at e; cases e.1), fun hc => ⟨fun h => no fun e => ?_, fun h => ?_⟩⟩
  · unfold Pl.withinI at h
    rw [decide_eq_true e.2.1, decide_eq_true e.2.2.1] at h
    cases h
  · unfold Pl.withinI at h
    simp only [Bool.and_eq_true, decide_eq_true_eq] at h
    obtain ⟨h0, h1⟩ := h
    have hz := hl.1
    have h2 := (Pl.hunt_cost c []).2
    refine ⟨c.1, c.2, hc, hl.1, hl.2, f, [], [], Pl.rgt_nil _, h0, h1, by simp; omega, rfl, rfl, rfl, rfl, rfl, fun a l out v ok hP => ?_⟩
    change ((((Pl.hunt c []).1 : Int) ≤ f → _) ∧ (f < ((Pl.hunt c []).1 : Int) → _)) at hP
    by_cases hle : ((Pl.hunt c []).1 : Int) ≤ f
    · have := hP.1 hle
      rw [List.nil_append] at this
      obtain ⟨rfl, rfl, rfl, rfl, rfl⟩ : a = f - (Pl.hunt c []).1 ∧ l = (Pl.hunt c []).2.1 ∧ out = false ∧ v = (Pl.hunt c []).2.2.1 ∧ ok = (Pl.hunt c []).2.2.2 := by
        simpa only [Prod.mk.injEq] using this
      rw [run_yes hc h0 h1 hle, Cg.wrap_small (by omega) (by omega)]
      refine ⟨fun h => by rw [if_pos h]; exact ⟨rfl, rfl, rfl, .inr rfl, rfl⟩, fun h => ⟨fun h3 => (by cases h3), fun _ => ⟨fun h3 => ?_, fun h3 => ?_⟩⟩⟩
      · rw [if_neg (by rw [h]; simp), if_pos (by omega)]; exact ⟨rfl, rfl, rfl, rfl, rfl⟩
      · rw [if_neg (by rw [h]; simp), if_neg (by omega)]; exact ⟨rfl, rfl, rfl, rfl, xrII_self⟩
    · obtain ⟨e1, e2, e3⟩ := hP.2 (by omega)
      exact ⟨fun h => (by rw [show ok = false from e3] at h; cases h), fun _ => ⟨fun _ => no fun e => hle e.2.2.2, fun h => (by rw [show out = true from e1] at h; cases h)⟩⟩)
theorem k_iHuntRunO : SoundC Try.prog K_iHuntRunO.1 K_iHuntRunO.2 := sound_ofW hm (((CtxOK.nil.and k_hcallOA).and k_within).and k_iCnfOk) (fun ((c, f) : HrX) => []) (by kernel_rfl) fun ((c, f) : HrX) hb => g_iHuntRunO c f hb
theorem k_iHuntRunL : SoundC Try.prog K_iHuntRunL.1 K_iHuntRunL.2 := ⟨k_iHuntRunO.1, SoundE.lend k_iHuntRunO.2 (fun x y z hz => by
    rcases List.mem_cons.1 hz with e | hz
    · subst e
      exact fun i hi j hj => plainI_v _
    · have e := List.mem_singleton.1 hz
      subst e
      exact fun i hi j hj => plainX_sl fun i hi j hj => plainI_v _) (fun x y S S' μ w v hr => hr) (fun x y => rfl) id (fun x => [.agg [i64 x.1.1, .osl 0 0 x.1.2.length], i64 x.2]) (fun x => [xrII x.1.2]) (fun x => ⟨_, rfl, by simp⟩)⟩
theorem k_sHuntRunG : SoundC Try.prog K_sHuntRunG.1 K_sHuntRunG.2 := ⟨k_sHuntRun.1, SoundE.give k_sHuntRun.2 (fun x k => rfl) (id : HrX → Pl.Cnf × Int) (fun x => [.agg [i64 x.1.1, .osl 0 0 x.1.2.length], i64 x.2]) (fun x => [xrII x.1.2]) (fun x => ⟨_, rfl, by simp⟩)⟩
theorem mks_mks : ∀ (l : List (List Int)) (k : Int), mksII k (mksII k l) = mksII k l
  | [], _ => rfl
  | r :: l, k => by simp only [mksII, seqI_len, mks_mks l]
theorem sumW_mks : ∀ (k : Int) (l : List (List Int)), sumW (mksII k l) = sumW l
  | _, [] => rfl
  | k, r :: l => by simp only [mksII, sumW, seqI_len, sumW_mks _ l]
theorem held_mks (k : Int) (l : List (List Int)) : heldII (mksII k l) k = k + sumW l := by
  unfold heldII
  rw [mks_mks, if_pos rfl, sumW_mks]
theorem mks_sz : ∀ (k : Int) (l : List (List Int)), (∀ x ∈ l, x.length ≤ 4294967296) → ∀ x ∈ mksII k l, x.length ≤ 4294967296
  | _, [], _, x, hx => by cases hx
  | k, r :: l, h, x, hx => by
    simp only [mksII, List.mem_cons] at hx
    rcases hx with rfl | hx
    · rw [seqI_len]; exact h r List.mem_cons_self
    · exact mks_sz _ l (fun y hy => h y (List.mem_cons_of_mem _ hy)) x hx
set_option maxHeartbeats 8000000 in
theorem g_xHuntRun (c : Pl.Cnf) (f : Int) (h1 : MlL c.2) : GoalW Try.prog [K_szCnf, K_toCnfO, K_sHuntRunG, K_iHuntRunL, K_eqBoolS, K_eqIntSS, K_eqCnf, K_markCnf, K_markBoolS, K_markIntSS, K_heldBoolS, K_heldIntSS] ([]) K_xHuntRun.1 K_xHuntRun.2 ((c, f)) := GoalW.of (vc_xHuntRun c f) (by
  simp (maxSteps := 2000000) [-List.getD_eq_getElem?_getD, -List.mem_cons, -Bool.forall_bool, -Bool.exists_bool, and_assoc, peta, tl_inj, ex_1, ex_2, ex_3, ex_4, ex_5, ex_6, ex_7, ex_8, ex_9, ey_2, ey_3, ey_4, ey_5, ey_6, ey_7, ey_8, ey_9]
  refine ⟨h1.1, h1.2, fun hz => ?_⟩
  obtain ⟨z1, z2⟩ := szSS_le (by omega) hz
  have hw := szSS_sum hz
  obtain ⟨g1, g2, g3⟩ := Pl.huntRun_sz c f
  have hsum : sumW (huntRun c f).2.1 ≤ 60 * 130 := by
    have : ∀ l : List (List Int), (∀ x ∈ l, x.length ≤ 60) → sumW l ≤ 60 * l.length := fun l => by
      induction l with
      | nil => intro _; simp [sumW]
      | cons r l ih =>
        intro h
        have a := h r List.mem_cons_self
        have b := ih fun x hx => h x (List.mem_cons_of_mem _ hx)
        simp only [sumW, List.length_cons]; omega
    have := this _ g3; omega
  generalize hR : huntRun c f = R at g1 g2 g3 hsum
  obtain ⟨r, lg, ok⟩ := R
  dsimp only at g1 g2 g3 hsum
  have hc : huntRun (c.1, c.2) f = (r, lg, ok) := hR
  have hlg : ∀ x ∈ lg, x.length ≤ 4294967296 := fun x hx => by have := g3 x hx; omega
  refine ⟨z1, z2, c.1, c.2, z1, z2, rfl, rfl, xrII_self, z1, z2, c.1, c.2, z1, z2, rfl, rfl, xrII_self, ?_⟩
  rw [hc]
  dsimp only
  refine ⟨by omega, rfl, fun _ => ⟨by omega, hlg, rfl, fun _ => ⟨rfl, fun _ => ⟨z1, z2, Nat.le_refl _, intss_self, z1, z2, c.1, c.2, z1, z2, by omega, rfl, rfl, xrII_self, by omega, fun _ => ⟨by omega, rfl, fun _ => ⟨by omega, hlg, rfl, fun _ => ⟨rfl, fun _ => ?_⟩⟩⟩⟩⟩⟩⟩
  have hb : heldB (seqB 1 r.length) 1 = 1 + r.length := by unfold heldB; rw [seqB_len, if_pos rfl]
  have hB : Is (AV.sl r.length 1 (cB (seqB 1 r.length ++ []))) (bools (seqB 1 r.length)) := by
    rw [List.append_nil]
    exact (bools_take (l := seqB 1 r.length) (m := seqB 1 r.length) (n := r.length) (by simp)).2 (by rw [List.take_of_length_le (by simp)])
  have hL : Is (AV.sl lg.length 1 (cII (mksII (1 + r.length) lg))) (intss (mksII (1 + r.length) lg)) :=
    (intss_take (l := mksII (1 + r.length) lg) (m := mksII (1 + r.length) lg) (n := lg.length) (by simp)).2 (by rw [List.take_of_length_le (by simp)])
  have hh := held_mks (1 + (r.length : Int)) lg
  have hs := sumW_mks (1 + (r.length : Int)) lg
  have hz' : ∀ x ∈ mksII (1 + (r.length : Int)) lg, x.length ≤ 4294967296 := mks_sz _ lg hlg
  have two : ∃ a_2, Is (AV.sl r.length 1 (cB (seqB 1 r.length ++ []))) (bools a_2) ∧ a_2.length ≤ 4294967296 ∧ a_2 = seqB 1 r.length := ⟨_, hB, by simp; omega, rfl⟩
  refine ⟨r, by omega, rfl, [], .inr (List.append_nil r).symm, lg, by omega, hlg, by omega, by omega, rfl, xrII_self, by simp, seqB 1 r.length, hB, by simp; omega, by omega, fun _ => ⟨Nat.le_refl _, mksII (1 + r.length) lg, hL, by simp; omega, hz', by omega, by omega, by rw [hb, hh]; omega, fun _ => ⟨by rw [hb, hh], fun _ => ⟨z1, z2, c.1, c.2, z1, z2, rfl, rfl, xrII_self, ?_⟩⟩⟩⟩
  rw [hc]
  dsimp only
  exact ⟨by omega, rfl, fun _ => ⟨by omega, hlg, rfl, fun _ => ⟨rfl, fun _ => ⟨by simp, seqB 1 r.length, hB, by simp; omega, by omega, fun _ => ⟨Nat.le_refl _, mksII (1 + r.length) lg, hL, by simp; omega, hz', by omega, by omega, by rw [hb, hh]; omega, fun _ => by rw [hb, hh]⟩⟩⟩⟩⟩)
theorem k_xHuntRun : SoundC Try.prog K_xHuntRun.1 K_xHuntRun.2 := sound_ofW hm ((((((((((((CtxOK.nil.and k_heldIntSS).and k_heldBoolS).and k_markIntSS).and k_markBoolS).and k_markCnf).and k_eqCnf).and k_eqIntSS).and k_eqBoolS).and k_iHuntRunL).and k_sHuntRunG).and k_toCnfO).and k_szCnf) (fun ((c, f) : HrX) => []) (by kernel_rfl) fun ((c, f) : HrX) hb => g_xHuntRun c f hb
end Cg
