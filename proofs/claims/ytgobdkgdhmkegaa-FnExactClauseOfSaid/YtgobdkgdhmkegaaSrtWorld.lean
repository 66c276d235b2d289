/-
  A row that the library has turned, as the abstract machine sees it; the sort and the compaction of lists of numbers. No condition.
-/
import Derived.Test.YtgobdkgdhmkegaaSrtDefs
import Derived.Test.YtgobdkgdhmkegaaShSort
import Derived.Test.YtgobdkgdhmkegaaShCompact
set_option linter.unusedVariables false
set_option linter.unusedSimpArgs false
namespace Cg
open Go Go.Proofs Go.Shelf
section
variable {S : Nat → Prop} {μ : Nat → OI} {w : World}
theorem live_one {x : AObj} {o : Nat} (h : LiveAt [x] o) : o = 0 := by
  cases o with
  | zero => rfl
  | succ o => simp [LiveAt] at h
theorem heap_turned (b base n : Nat) (d : Array Int) (os : Array Obj) (c : Nat) (hc : c < w.heap.size) :
    (Go.Sort.grow (Go.Sort.putRow (Value.int .i64) (Go.Sort.ahead w n) b base d) os).heap[c]? = if b = c then (w.heap[c]?).map (Go.Sort.onCells (Go.Sort.putCells (Value.int .i64) base d)) else w.heap[c]? := by
  show ((w.heap.modify b (Go.Sort.onCells (Go.Sort.putCells (Value.int .i64) base d))) ++ os)[c]? = _
  rw [Array.getElem?_append_left (by simpa using hc), Array.getElem?_modify]
theorem own_arI {d : List Int} {b : Nat} (h : Own μ [arI d] 0 b) : (μ 0).b = some b := by
  obtain ⟨x, h1, h2⟩ := h
  cases h1; exact h2
theorem row_turned {l d : List Int} {b : Nat} (hok : HOK S μ w [arI l]) (hb : (μ 0).b = some b) (hd : d.length = l.length) (n : Nat) (os : Array Obj) :
    Evo S μ [arI l] w S μ [arI d] (Go.Sort.grow (Go.Sort.putRow (Value.int .i64) (Go.Sort.ahead w n) b (μ 0).base d.toArray) os) := by
  obtain ⟨he, ho⟩ := hok.obj 0 _ rfl
  rw [hb] at ho
  obtain ⟨hn, c, T, hh, hsz, hcells⟩ := ho
  have hlt : b < w.heap.size := (hok.own 0 b (by simp [LiveAt, arI]) hb).2
  have hsize : w.heap.size ≤ (Go.Sort.grow (Go.Sort.putRow (Value.int .i64) (Go.Sort.ahead w n) b (μ 0).base d.toArray) os).heap.size := by
    show _ ≤ ((w.heap.modify b (Go.Sort.onCells (Go.Sort.putCells (Value.int .i64) (μ 0).base d.toArray))) ++ os).size
    simp
  refine ⟨fun _ h => h, fun _ h => .inl h, fun _ _ => rfl, Nat.le_refl _, ⟨rfl, rfl, rfl, hsize, fun k hk hnb => ?_⟩, fun o k hk => ?_, ?_⟩
  · rw [heap_turned _ _ _ _ _ _ hk, if_neg]
    intro e
    exact hnb ⟨0, _, rfl, by show (μ 0).b = some k; rw [hb, e]⟩
  · have := live_one hk.live
    subst this
    exact .inr ⟨0, _, rfl, own_arI hk⟩
  · refine ⟨fun o x ho => ?_, fun o cs ho => ?_, fun o o' k hne h1 h2 => ?_, fun o k hk => ?_, fun k hk => Nat.lt_of_lt_of_le (hok.inS k hk) hsize⟩
    · cases o with
      | succ o => simp at ho
      | zero =>
        simp only [List.getElem?_cons_zero, Option.some.injEq] at ho
        subst ho
        refine ⟨he, ?_⟩
        rw [hb]
        refine ⟨by show d.length ≤ _; rw [hd]; exact hn, Go.Sort.putCells (Value.int .i64) (μ 0).base d.toArray c, T, ?_, ?_, fun i hi j hj => ?_⟩
        · rw [heap_turned _ _ _ _ _ _ hlt, if_pos rfl, hh]; rfl
        · show _ ≤ (Array.mapIdx _ c).size
          rw [Array.size_mapIdx]; exact hsz
        · have hj0 : j = 0 := by omega
          subst hj0
          obtain ⟨x, h1, _⟩ := hcells i (by rw [← hd]; exact hi) 0 (by decide)
          have hi' : i < d.length := hi
          have hk : (μ 0).base + i * 1 + 0 < c.size := (Array.getElem?_eq_some_iff.1 h1).1
          refine ⟨.int .i64 (d.getD i 0), ?_, ?_⟩
          · show (Array.mapIdx _ c)[(μ 0).base + i * 1 + 0]? = _
            rw [Array.getElem?_mapIdx, h1]
            simp only [Option.map_some, Nat.mul_one, Nat.add_zero]
            rw [if_pos (by simp; omega)]
            simp [hi']
          · show RelI S _ (.v (.int .i64 (d.getD i 0))) _
            rw [RelI]; exact ⟨rfl, rfl⟩
    · cases o with
      | succ o => simp at ho
      | zero => simp [arI] at ho
    · exact absurd ((live_one h1.live).trans (live_one h2.live).symm) hne
    · have := live_one hk.live
      subst this
      have h3 := hok.own 0 k (by simp [LiveAt, arI]) (own_arI hk)
      exact ⟨h3.1, Nat.lt_of_lt_of_le h3.2 hsize⟩
theorem row_holds {l : List Int} {b : Nat} (hok : HOK S μ w [arI l]) (hb : (μ 0).b = some b) : Go.Sort.Holds (Value.int .i64) w b (μ 0).base l.toArray := fun j hj => by
  obtain ⟨he, ho⟩ := hok.obj 0 _ rfl
  rw [hb] at ho
  obtain ⟨hn, c, T, hh, hsz, hcells⟩ := ho
  have hj' : j < l.length := by simpa using hj
  obtain ⟨x, h1, h2⟩ := hcells j hj' 0 (by decide)
  have h2' : RelI S w (.v (.int .i64 (l.getD j 0))) x := h2
  rw [RelI] at h2'
  rw [h2'.1] at h1
  simp only [Nat.mul_one, Nat.add_zero] at h1
  constructor
  · simp only [World.cell?, hh, h1]
    simp [hj']
  · simp [World.frozen?, hh]
theorem Evo.same {H : List AObj} (hok : HOK S μ w H) : Evo S μ H w S μ H w :=
  ⟨fun _ h => h, fun _ h => .inl h, fun _ _ => rfl, Nat.le_refl _, Kept.refl _ _ _, fun o b hb => .inr ⟨o, hb⟩, hok⟩
end

theorem srt_abs (x : Int) : Srt.abs x = Pl.varI x := by
  have e : Go.RowKit.wrap64 (-x) = Pl.wneg x := by
    unfold Go.RowKit.wrap64 Pl.wneg
    simp only [IntKind.wrap, IntKind.signed, IntKind.bits]
    simp
    omega
  unfold Srt.abs Pl.varI
  rw [e]
theorem srt_lt (x y : Int) : Go.Proofs.ltOf (fun a b => Srt.cmp (Srt.abs a) (Srt.abs b)) x y = decide (Pl.varI x < Pl.varI y) := by
  show decide (Srt.cmp (Srt.abs x) (Srt.abs y) < 0) = _
  unfold Srt.cmp
  rw [srt_abs, srt_abs]
  split
  · rename_i h; simp [h]
  · rename_i h
    split <;> simp [h]
theorem srt_swo : Go.Sort.SWO (Go.Proofs.ltOf (fun a b => Srt.cmp (Srt.abs a) (Srt.abs b))) where
  irrefl x := by rw [srt_lt]; simp
  trans x y z h1 h2 := by rw [srt_lt] at *; simp only [decide_eq_true_eq] at *; omega
  ntrans x y z h1 h2 := by rw [srt_lt] at *; simp only [decide_eq_false_iff_not] at *; omega

theorem k_SortFunc : SoundC Try.prog K_SortFunc.1 K_SortFunc.2 := ⟨callable_of (by kernel_rfl), fun l hl S μ w vals hok hrel => by
  have hl' : l.length ≤ 4294967296 := hl
  obtain ⟨y0, r0, rfl, ha, y1, r1, rfl, hb, hc⟩ := hrel
  cases hc
  obtain ⟨vs, rfl, hvs⟩ := hb
  cases hvs
  have nil0 : ∀ (p : Option Addr) (cap : Nat), l = [] → y0 = .slice p 0 cap → Calls Try.prog K_SortFunc.1 [y0, .func (.func Nm.impl_ClauseOf_1) #[] #[]].toArray w (fun e w' => ∃ v y S' μ', e = .returned v ∧ (l.Perm y ∧ Pl.SortedV y) ∧ Evo S μ [arI l] w S' μ' [arI y] w' ∧ Rel S' μ' w' (.tup []) v) := fun p cap e0 e1 => by
    subst e1
    refine (AnyF.slices_SortFunc_none { Try.laysSF with } p cap (.func (.func Nm.impl_ClauseOf_1) #[] #[]) w).mono fun e w' ⟨he, hw⟩ => ?_
    subst hw
    refine ⟨_, l, S, μ, he, ⟨List.Perm.refl _, fun i j _ hj => by rw [e0] at hj; simp at hj⟩, Evo.same hok, ⟨[], rfl, rfl⟩⟩
  unfold Rel at ha
  cases hb : (μ 0).b with
  | none =>
    simp only [hb] at ha
    obtain ⟨_, h0, a, rfl⟩ := ha
    have e0 : l = [] := List.length_eq_zero_iff.1 h0
    exact nil0 a 0 e0 rfl
  | some b =>
    simp only [hb] at ha
    obtain ⟨hcap, a, rfl, haddr⟩ := ha
    by_cases h0 : l.length = 0
    · have e0 : l = [] := List.length_eq_zero_iff.1 h0
      exact nil0 (some a) _ e0 (by rw [h0])
    · have e1 : a = ⟨b, (μ 0).base, none⟩ := by
        rw [haddr (by omega)]; simp
      subst e1
      have hsz : l.toArray.size < 4611686018427387904 := by simp; omega
      have hlt : b < w.heap.size := (hok.own 0 b (by simp [LiveAt, arI]) hb).2
      have hcmp : CmpLays1 Try.prog Nm.impl_ClauseOf_1 #[] (Value.int .i64) (fun a b => Srt.cmp (Srt.abs a) (Srt.abs b)) b (μ 0).base l.toArray.size w := fun m os dk hs x y =>
        (Try.clausecmp_calls x y _).mono fun e w' ⟨he, hw⟩ => ⟨he, 0, #[], by rw [hw, Go.Sort.grow_empty]; rfl⟩
      have hcon := Any.slices_SortFunc Try.laysSF (Value.int .i64) (fun _ => rfl) (fun a b => Srt.cmp (Srt.abs a) (Srt.abs b)) srt_swo Nm.impl_ClauseOf_1 #[] b (μ 0).base ((μ 0).cap - 0) l.toArray w (enters_of Try.func83 (by kernel_rfl) rfl) hcmp (row_holds hok hb) hlt hsz
      have hcon' : Calls Try.prog K_SortFunc.1 [.slice (some ⟨b, (μ 0).base, none⟩) l.length ((μ 0).cap - 0), .func (.func Nm.impl_ClauseOf_1) #[] #[]].toArray w _ := hcon
      refine hcon'.mono fun e w' ⟨he, d', n, os, hp, hs, hw⟩ => ?_
      obtain ⟨hp1, _, hp3⟩ := hp
      have hdl : d'.toList.length = l.length := by simpa using hp1
      have hperm : l.Perm d'.toList := by
        have h3 : (d'.extract 0 l.length).toList.Perm (l.toArray.extract 0 l.length).toList := hp3
        have e1 : d'.extract 0 l.length = d' := by rw [← hdl]; simp
        have e2 : l.toArray.extract 0 l.length = l.toArray := by simp
        rw [e1, e2] at h3
        exact h3.symm
      refine ⟨_, d'.toList, S, μ, he, ⟨hperm, fun i j hij hj => ?_⟩, ?_, ⟨[], rfl, rfl⟩⟩
      · have h4 := hs i j (Nat.zero_le _) hij (by rw [hdl] at hj; simpa using hj)
        rw [srt_lt] at h4
        have hj' : j < d'.size := by simpa using hj
        have hi' : i < d'.size := by omega
        have e1 : d'.toList.getD j 0 = d'[j]! := by simp [hj']
        have e2 : d'.toList.getD i 0 = d'[i]! := by simp [hi']
        rw [e1, e2]
        simpa using h4
      · rw [hw]
        have h5 := row_turned (d := d'.toList) hok hb hdl n os
        rw [Array.toArray_toList] at h5
        exact h5⟩
theorem compactL_eq (l : List Int) : Go.Lib.compact l = Pl.compactL l := by
  unfold Go.Lib.compact Go.Lib.compactUpTo Pl.compactL Pl.compactN
  have e : ∀ k, l.toArray[k]! = l.getD k 0 := fun k => by
    by_cases h : k < l.length
    · simp [h]
    · simp [h]
  have e2 : Go.Lib.keeps l.toArray = Pl.keepsL l := by
    funext j
    unfold Go.Lib.keeps Pl.keepsL
    rw [e, e]
  rw [e2]
  congr 1
  funext j
  exact e j
theorem k_Compact : SoundC Try.prog K_Compact.1 K_Compact.2 := ⟨callable_of (by kernel_rfl), fun l hl S μ w vals hok hrel => by
  have hl' : l.length ≤ 4294967296 := hl
  obtain ⟨y0, r0, rfl, ha, hc⟩ := hrel
  cases hc
  have ha0 := ha
  have hle : (Pl.compactL l).length ≤ l.length := by
    unfold Pl.compactL Pl.compactN
    rw [List.length_map]
    exact Nat.le_trans (List.length_filter_le _ _) (by rw [List.length_range]; exact Nat.le_refl _)
  have nil0 : ∀ (p : Option Addr) (cap : Nat), l = [] → y0 = .slice p 0 cap → Calls Try.prog K_Compact.1 [y0].toArray w (fun e w' => ∃ v, ∃ y : Unit, ∃ S' μ', e = .returned v ∧ True ∧ Evo S μ [arI l] w S' μ' [arI (Pl.compactL l ++ List.replicate (l.length - (Pl.compactL l).length) 0)] w' ∧ Rel S' μ' w' (.osl 0 0 (Pl.compactL l).length) v) := fun p cap e0 e1 => by
    subst e1
    refine (Try.slices_Compact_int_empty p cap w).mono fun e w' ⟨he, hw⟩ => ?_
    subst hw
    subst e0
    exact ⟨_, (), S, μ, he, trivial, Evo.same hok, ha0⟩
  unfold Rel at ha
  cases hb : (μ 0).b with
  | none =>
    simp only [hb] at ha
    obtain ⟨_, h0, a, rfl⟩ := ha
    have e0 : l = [] := List.length_eq_zero_iff.1 h0
    exact nil0 a 0 e0 rfl
  | some b =>
    simp only [hb] at ha
    obtain ⟨hcap, a, rfl, haddr⟩ := ha
    by_cases h0 : l.length = 0
    · have e0 : l = [] := List.length_eq_zero_iff.1 h0
      exact nil0 (some a) _ e0 (by rw [h0])
    · have e1 : a = ⟨b, (μ 0).base, none⟩ := by
        rw [haddr (by omega)]; simp
      subst e1
      have hcon := Try.slices_Compact_int b (μ 0).base ((μ 0).cap - 0) l w (row_holds hok hb) (by omega) (by omega)
      refine Calls.mono hcon fun e w' ⟨he, q, hw⟩ => ?_
      rw [compactL_eq] at he hw
      refine ⟨_, (), S, μ, he, trivial, ?_, ?_⟩
      · have := row_turned (d := Pl.compactL l ++ List.replicate (l.length - (Pl.compactL l).length) 0) hok hb (by simp; omega) q #[]
        rw [Go.Sort.grow_empty] at this
        rw [hw]; exact this
      · unfold Rel
        simp only [hb]
        exact ⟨by omega, _, rfl, fun _ => by simp⟩⟩
end Cg
