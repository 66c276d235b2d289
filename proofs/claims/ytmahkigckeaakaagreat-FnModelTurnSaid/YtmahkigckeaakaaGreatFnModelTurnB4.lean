/-
  What the law leans on, part 4. No condition.
-/
import Derived.Test.YtmahkigckeaakaaGreatProg
import Derived.Shelf.Strings.OnBuilder
import Derived.Test.YtmahkigckeaakaaGreatFnModelTurnB1
import Derived.Test.YtmahkigckeaakaaGreatFnModelTurnB2
import Derived.Test.YtmahkigckeaakaaGreatFnModelTurnB3
/-
  The codes' contracts: the sorts of terms. No condition.
-/
set_option linter.unusedVariables false
set_option linter.unusedSimpArgs false
set_option maxRecDepth 100000
set_option maxHeartbeats 1000000
namespace Pl
open Go Cg
theorem sumN_congr {α : Type} {f g : α → Nat} : ∀ {l : List α}, (∀ x ∈ l, f x = g x) → sumN f l = sumN g l
  | [], _ => rfl
  | x :: r, h => by simp only [sumN]; rw [h x List.mem_cons_self, sumN_congr fun y hy => h y (List.mem_cons_of_mem _ hy)]
theorem sumN_le {α : Type} {f : α → Nat} {b : Nat} : ∀ {l : List α}, (∀ x ∈ l, f x ≤ b) → sumN f l ≤ l.length * b
  | [], _ => Nat.zero_le _
  | x :: r, h => by
    simp only [sumN, List.length_cons, Nat.add_mul, Nat.one_mul]
    have := h x List.mem_cons_self
    have := sumN_le (l := r) fun y hy => h y (List.mem_cons_of_mem _ hy)
    omega
theorem tsz_shape : ∀ (n : Nat) (t : Tm), (shape n t = true → tsz n t = manyD n t) ∧ (shape n t = false → 13 ≤ tsz n t)
  | 0, t => ⟨fun h => (by simp [shape] at h), fun _ => Nat.le_refl _⟩
  | n + 1, t => by
    simp only [shape, tsz, manyD]
    cases h1 : nameOk t.val
    · simp
    · by_cases h2 : t.kids.length ≤ 2
      · have h2' : ¬ t.kids.length > 2 := by omega
        rw [decide_eq_true h2, decide_eq_false h2']
        simp only [Bool.not_true, Bool.or_self, Bool.false_eq_true, if_false, Bool.and_self, Bool.true_and]
        refine ⟨fun h => ?_, fun h => ?_⟩
        · rw [sumN_congr fun x hx => (tsz_shape n x).1 (List.all_eq_true.1 h x hx)]
        · obtain ⟨x, hx, h3⟩ := List.all_eq_false.1 h
          have h4 := (tsz_shape n x).2 (by simpa using h3)
          have h5 := sumN_mem (tsz n) hx
          omega
      · have h2' : t.kids.length > 2 := by omega
        rw [decide_eq_false h2, decide_eq_true h2']
        simp
theorem isTerm_right (t : Tm) : isTerm t = right t := by
  obtain ⟨h1, h2⟩ := tsz_shape 4 t
  unfold isTerm right
  cases h : shape 4 t
  · rw [Bool.false_and]; exact decide_eq_false (by have := h2 h; omega)
  · rw [h1 h, Bool.true_and]
theorem tsz_le : ∀ (n : Nat) (t : Tm), tsz n t + 1 ≤ 14 * 2 ^ n
  | 0, t => by simp [tsz]
  | n + 1, t => by
    have h0 : 1 ≤ 2 ^ n := Nat.one_le_two_pow
    simp only [tsz, Nat.pow_succ]
    split
    · omega
    · rename_i h
      have h2 : t.kids.length ≤ 2 := by
        simp only [Bool.or_eq_true, decide_eq_true_eq] at h; omega
      have h3 : sumN (tsz n) t.kids ≤ t.kids.length * (14 * 2 ^ n - 1) := sumN_le fun x _ => by have := tsz_le n x; omega
      have h4 : t.kids.length * (14 * 2 ^ n - 1) ≤ 2 * (14 * 2 ^ n - 1) := Nat.mul_le_mul_right _ h2
      omega
theorem manyD_le : ∀ (n : Nat) (t : Tm), manyD n t ≤ 1 + costT t
  | 0, t => by simp [manyD]
  | n + 1, t => by
    simp only [manyD]
    rw [costT_eq]
    have : ∀ l : List Tm, sumN (manyD n) l ≤ l.length + costTs l := by
      intro l
      induction l with
      | nil => simp [sumN]
      | cons x r ih => simp only [sumN, costTs, List.length_cons]; have := manyD_le n x; omega
    have := this t.kids
    omega
theorem sigL_mem : ∀ {s : Sig} {p : Option ByteArray}, sigL p s = true → ∀ y ∈ s, symOk y = true
  | x :: r, p, h, y, hy => by
    simp only [sigL, Bool.and_eq_true] at h
    cases List.mem_cons.1 hy with
    | inl e => subst e; exact h.1.1
    | inr e => exact sigL_mem h.2 y e
theorem sigOk_mem {s : Sig} (h : sigOk s = true) {y : Sym} (hy : y ∈ s) : symOk y = true := by
  simp only [sigOk, Bool.and_eq_true] at h
  exact sigL_mem h.1 y hy
theorem find_mem {s : Sig} {nm : ByteArray} (h : (find s nm).isSome = true) : symOf s nm ∈ s := by
  unfold symOf
  cases h2 : find s nm with
  | none => rw [h2] at h; cases h
  | some y => exact List.mem_of_find?_eq_some h2
theorem isSort_iff {n : Int} : isSort n = true ↔ n = 0 ∨ n = 1 := by simp [isSort]
theorem sortT_eq (s : Sig) (a : ByteArray) (b : List Tm) : sortT s (.mk a b) = if (find s a).isSome = true ∧ (symOf s a).2.1.length = b.length ∧ sortL s b (symOf s a).2.1 = true then some (symOf s a).2.2 else none := by
  simp only [sortT]
  unfold symOf
  cases h : find s a with
  | none => simp
  | some y => simp only [Option.getD_some, Option.isSome_some, true_and]; split <;> split <;> simp_all
theorem sortT_sort {s : Sig} (hs : sigOk s = true) {t : Tm} {n : Int} (h : sortT s t = some n) : n = 0 ∨ n = 1 := by
  cases t with
  | mk a b =>
    rw [sortT_eq] at h
    split at h
    · rename_i h1
      cases h
      have := sigOk_mem hs (find_mem h1.1)
      simp only [symOk, Bool.and_eq_true] at this
      exact isSort_iff.1 this.1.2
    · cases h
theorem sortL_cons (s : Sig) (t : Tm) (ts : List Tm) (n : Int) (ns : List Int) : sortL s (t :: ts) (n :: ns) = (decide (sortT s t = some n) && sortL s ts ns) := by
  conv => lhs; unfold sortL
  rfl
theorem find_step {s : Sig} {nm : ByteArray} {k : Nat} (hk : k < s.length) (he : find s nm = find (s.drop k) nm) : ((s.getD k dY).1 = nm → find s nm = some (s.getD k dY)) ∧ ((s.getD k dY).1 ≠ nm → find s nm = find (s.drop (k + 1)) nm) := by
  rw [drop_get dY hk] at he
  unfold find at he ⊢
  rw [List.find?_cons] at he
  refine ⟨fun h => ?_, fun h => ?_⟩
  · rw [he]; simp only [h, decide_true]
  · rw [he]; simp only [h, decide_false]
end Pl
namespace Cg
open Go Go.Proofs Pl

theorem tm_size {a : ByteArray} {b : List Tm} (h : SmT (.mk a b)) : a.size ≤ 1048576 ∧ b.length ≤ 1048576 := by
  have h1 : costT (.mk a b) ≤ 1048576 := h
  rw [costT_eq] at h1
  simp only [Tree.val, Tree.kids] at h1
  omega

theorem k_l4Shape (n : Nat) : SoundC Tryz.prog (K_l4Shape n).1 (K_l4Shape n).2 := by
  induction n with
  | zero => exact sound_of hm (CtxOK.nil.and k_sNameOk) (fun _ => []) (by kernel_rfl) fun (x : TP) hl => (by
      rw [← vc_l4Shape0 x]
      simp [-List.getD_eq_getElem?_getD, -List.mem_cons, -Bool.forall_bool, -Bool.exists_bool, and_assoc, peta, tl_inj, ex_1, ex_2, ex_3, ex_4, ex_5, ex_6, ex_7, ex_8, ex_9, ey_2, ey_3, ey_4, ey_5, ey_6, ey_7, ey_8, ey_9]
      rfl)
  | succ n ih => exact sound_of hm ((CtxOK.nil.and (K := K_l4Shape n) ih).and k_sNameOk) (fun x => A_l4Shape n x.1 x.2) (by kernel_rfl) fun (x : TP) hl => (by
      have h1 : SmT (.mk x.1 x.2) := hl.1
      have hn : n + 1 ≤ 10 := hl.2
      clear hl
      rw [← vc_l4Shape n x]
      obtain ⟨a, b⟩ := x
      dsimp only at *
      simp [-List.getD_eq_getElem?_getD, -List.mem_cons, -Bool.forall_bool, -Bool.exists_bool, and_assoc, peta, tl_inj, ex_1, ex_2, ex_3, ex_4, ex_5, ex_6, ex_7, ex_8, ex_9, ey_2, ey_3, ey_4, ey_5, ey_6, ey_7, ey_8, ey_9]
      obtain ⟨t1, t2⟩ := tm_size h1
      have k1 := (SmT.kids h1).len
      have e : Pl.shape (n + 1) (Tree.mk a b) = (nameOk a && decide (b.length ≤ 2) && b.all (Pl.shape n)) := rfl
      refine ⟨t1, fun h => by rw [e, h]; rfl, fun h => ⟨fun h2 => by rw [e, decide_eq_false (by omega)]; simp, fun h2 => ⟨⟨0, by simp, by rw [e, h, decide_eq_true (by omega)]; simp, rfl⟩, fun k hk he => ⟨fun hlt => ?_, fun hge => by rw [he, drop_end (by omega)]; rfl⟩⟩⟩⟩
      rw [drop_get dT hlt, List.all_cons] at he
      exact ⟨hlt, wrap_small (by omega) (by omega), (SmT.kids h1).mem (getD_mem dT hlt), by omega, fun h3 => by rw [he, h3]; rfl, fun h3 => ⟨k + 1, hlt, by rw [he, h3, Bool.true_and], by omega, wrap_small (by omega) (by omega)⟩⟩)

theorem k_l4Many (n : Nat) : SoundC Tryz.prog (K_l4Many n).1 (K_l4Many n).2 := by
  induction n with
  | zero => exact sound_of hm CtxOK.nil (fun x => A_l4Many0 x.1 x.2) (by kernel_rfl) fun (x : TP) hl => (by
      clear hl
      rw [← vc_l4Many0 x]
      obtain ⟨a, b⟩ := x
      dsimp only at *
      simp [-List.getD_eq_getElem?_getD, -List.mem_cons, -Bool.forall_bool, -Bool.exists_bool, and_assoc, peta, tl_inj, ex_1, ex_2, ex_3, ex_4, ex_5, ex_6, ex_7, ex_8, ex_9, ey_2, ey_3, ey_4, ey_5, ey_6, ey_7, ey_8, ey_9]
      simp [manyD])
  | succ n ih => exact sound_of hm (CtxOK.nil.and (K := K_l4Many n) ih) (fun x => A_l4Many n x.1 x.2) (by kernel_rfl) fun (x : TP) hl => (by
      have h1 : SmT (.mk x.1 x.2) := hl.1
      have hn : n + 1 ≤ 10 := hl.2
      clear hl
      rw [← vc_l4Many n x]
      obtain ⟨a, b⟩ := x
      dsimp only at *
      simp [-List.getD_eq_getElem?_getD, -List.mem_cons, -Bool.forall_bool, -Bool.exists_bool, and_assoc, peta, tl_inj, ex_1, ex_2, ex_3, ex_4, ex_5, ex_6, ex_7, ex_8, ex_9, ey_2, ey_3, ey_4, ey_5, ey_6, ey_7, ey_8, ey_9]
      have k1 := (SmT.kids h1).len
      have bnd : ∀ k, 1 + sumN (manyD n) (b.take k) ≤ 1 + costT (.mk a b) := fun k => by
        have := sumN_take_le (manyD n) b k
        have h2 := manyD_le (n + 1) (.mk a b)
        simp only [manyD, Tree.kids] at h2
        omega
      have h1' : costT (.mk a b) ≤ 1048576 := h1
      refine ⟨⟨0, by simp, by simp [sumN], rfl⟩, fun k hk => ⟨fun hlt => ?_, fun hge => ?_⟩⟩
      · have ht := sumN_take (manyD n) dT hlt
        have := bnd (k + 1)
        exact ⟨hlt, wrap_small (by omega) (by omega), (SmT.kids h1).mem (getD_mem dT hlt), by omega, k + 1, hlt, by omega, by rw [wrap_small (by omega) (by omega), ht]; omega, wrap_small (by omega) (by omega)⟩
      · rw [List.take_of_length_le hge]; simp [manyD])

theorem k_l4Right : SoundC Tryz.prog K_l4Right.1 K_l4Right.2 := sound_of hm ((CtxOK.nil.and (K := K_l4Many 4) (k_l4Many 4)).and (K := K_l4Shape 4) (k_l4Shape 4)) (fun _ => []) (by kernel_rfl) fun (a, b) hl => cast (vc_l4Right a b) (by
  replace hl : SmT (.mk a b) := hl
  simp [-List.getD_eq_getElem?_getD, -List.mem_cons, -Bool.forall_bool, -Bool.exists_bool, and_assoc, peta, tl_inj, ex_1, ex_2, ex_3, ex_4, ex_5, ex_6, ex_7, ex_8, ex_9, ey_2, ey_3, ey_4, ey_5, ey_6, ey_7, ey_8, ey_9]
  exact ⟨hl, fun h => ⟨hl, by unfold right; rw [h, Bool.true_and]; congr 1; simp only [eq_iff_iff]; omega⟩, fun h => by unfold right; rw [h]; rfl⟩)
theorem k_l4Find : SoundC Tryz.prog K_l4Find.1 K_l4Find.2 := sound_of hm CtxOK.nil (fun (s, nm) => A_l4Find s nm) (by kernel_rfl) fun (s, nm) hl => cast (vc_l4Find s nm) (by
  replace hl : SmG s := hl
  simp [-List.getD_eq_getElem?_getD, -List.mem_cons, -Bool.forall_bool, -Bool.exists_bool, and_assoc, peta, tl_inj, ex_1, ex_2, ex_3, ex_4, ex_5, ex_6, ex_7, ex_8, ex_9, ey_2, ey_3, ey_4, ey_5, ey_6, ey_7, ey_8, ey_9]
  have hlen := hl.len
  refine ⟨⟨0, by simp, by simp, rfl, rfl⟩, fun k hk he => ⟨fun hlt => ⟨hlt, fun h => ?_, fun h => ⟨k + 1, hlt, (find_step hlt he).2 h, by omega, wrap_small (by omega) (by omega)⟩⟩, fun hge => ?_⟩⟩
  · have := (find_step hlt he).1 h
    unfold symOf
    rw [this]
    exact ⟨hlt, rfl, rfl, rfl, rfl⟩
  · rw [drop_end (by omega)] at he
    unfold symOf
    rw [he]
    exact ⟨rfl, rfl, rfl, rfl⟩)
theorem k_symbol : SoundC Tryz.prog K_symbol.1 K_symbol.2 := sound_of hm CtxOK.nil (fun (s, nm) => A_symbol s nm) (by kernel_rfl) fun (s, nm) hl => cast (vc_symbol s nm) (by
  replace hl : SmG s := hl
  simp [-List.getD_eq_getElem?_getD, -List.mem_cons, -Bool.forall_bool, -Bool.exists_bool, and_assoc, peta, tl_inj, ex_1, ex_2, ex_3, ex_4, ex_5, ex_6, ex_7, ex_8, ex_9, ey_2, ey_3, ey_4, ey_5, ey_6, ey_7, ey_8, ey_9]
  have hlen := hl.len
  refine ⟨⟨0, by simp, by simp, rfl, rfl⟩, fun k hk he => ⟨fun hlt => ⟨hlt, fun h => ?_, fun h => ⟨k + 1, hlt, (find_step hlt he).2 h, by omega, wrap_small (by omega) (by omega)⟩⟩, fun hge => ?_⟩⟩
  · have := (find_step hlt he).1 h
    unfold symOf
    rw [this]
    exact ⟨rfl, rfl, rfl, rfl⟩
  · rw [drop_end (by omega)] at he
    unfold symOf
    rw [he]
    exact ⟨rfl, rfl, rfl, rfl⟩)
theorem k_l4Of (n : Nat) : SoundC Tryz.prog (K_l4Of n).1 (K_l4Of n).2 := by
  induction n with
  | zero => exact sound_of hm CtxOK.nil (fun _ => []) (by kernel_rfl) fun x h => absurd h.2 (Nat.not_lt_zero _)
  | succ n ih => exact sound_of hm ((CtxOK.nil.and (K := K_l4Of n) ih).and k_l4Find) (fun x => A_l4Of x.1 x.2.1 x.2.2) (by kernel_rfl) fun (x : Sig × TP) hl => (by
      have hs : sigOk x.1 = true := hl.1.1
      have hg : SmG x.1 := hl.1.2.1
      have ht : SmT (.mk x.2.1 x.2.2) := hl.1.2.2
      have hn : manyL x.2.2 < n + 1 := hl.2
      clear hl
      rw [← vc_l4Of n x]
      obtain ⟨s, a, b⟩ := x
      dsimp only at *
      simp [-List.getD_eq_getElem?_getD, -List.mem_cons, -Bool.forall_bool, -Bool.exists_bool, and_assoc, peta, tl_inj, ex_1, ex_2, ex_3, ex_4, ex_5, ex_6, ex_7, ex_8, ex_9, ey_2, ey_3, ey_4, ey_5, ey_6, ey_7, ey_8, ey_9]
      have k1 := (SmT.kids ht).len
      have e := sortT_eq s a b
      refine ⟨hg, fun h => by rw [e, h]; rfl, fun h => ⟨fun h2 => by rw [e, if_neg (fun h3 => h2 (by omega))]; rfl, fun h2 => ⟨⟨0, by simp, by omega, h, by simp, rfl⟩, fun k hk hb hf he => ⟨fun hlt => ?_, fun hge => ?_⟩⟩⟩⟩
      · have hy := sigOk_mem hs (find_mem hf)
        simp only [symOk, Bool.and_eq_true] at hy
        have hz := isSort_iff.1 (List.all_eq_true.1 hy.2 _ (getD_mem 0 (by omega : k < (symOf s a).2.1.length)))
        rw [drop_get dT hlt, drop_get 0 (by omega : k < (symOf s a).2.1.length)] at he
        rw [sortL_cons] at he
        have key : (sortT s (b.getD k dT)).getD (-1) = (symOf s a).2.1.getD k 0 ↔ sortT s (b.getD k dT) = some ((symOf s a).2.1.getD k 0) := by
          cases sortT s (b.getD k dT) with
          | none => exact ⟨fun h => by simp only [Option.getD_none] at h; omega, fun h => by cases h⟩
          | some m => simp
        refine ⟨hlt, hs, hg, (SmT.kids ht).mem (getD_mem dT hlt), by have := manyL_kids (getD_mem dT hlt); omega, by omega, fun h3 => ?_, fun h3 => ⟨k + 1, hlt, hb, hf, ?_, by omega, wrap_small (by omega) (by omega)⟩⟩
        · rw [decide_eq_false (fun h4 => h3 (key.2 h4)), Bool.false_and] at he
          rw [e, if_neg (fun h5 => by rw [he] at h5; cases h5.2.2)]; rfl
        · rw [he, decide_eq_true (key.1 h3), Bool.true_and]
      · rw [drop_end (by omega)] at he
        simp only [sortL] at he
        rw [e, if_pos ⟨hf, hb, he⟩]; rfl)
theorem k_sortOf (n : Nat) : SoundC Tryz.prog (K_sortOf n).1 (K_sortOf n).2 := by
  induction n with
  | zero => exact sound_of hm CtxOK.nil (fun _ => []) (by kernel_rfl) fun x h => absurd h.2 (Nat.not_lt_zero _)
  | succ n ih => exact sound_of hm ((CtxOK.nil.and (K := K_sortOf n) ih).and k_symbol) (fun x => A_sortOf x.1 x.2.1 x.2.2) (by kernel_rfl) fun (x : Sig × TP) hl => (by
      have hs : sigOk x.1 = true := hl.1.1
      have hg : SmG x.1 := hl.1.2.1
      have ht : SmT (.mk x.2.1 x.2.2) := hl.1.2.2
      have hn : manyL x.2.2 < n + 1 := hl.2
      clear hl
      rw [← vc_sortOf n x]
      obtain ⟨s, a, b⟩ := x
      dsimp only at *
      simp [-List.getD_eq_getElem?_getD, -List.mem_cons, -Bool.forall_bool, -Bool.exists_bool, and_assoc, peta, tl_inj, ex_1, ex_2, ex_3, ex_4, ex_5, ex_6, ex_7, ex_8, ex_9, ey_2, ey_3, ey_4, ey_5, ey_6, ey_7, ey_8, ey_9]
      have k1 := (SmT.kids ht).len
      have e := sortT_eq s a b
      have no : ¬ ((find s a).isSome = true ∧ (symOf s a).2.1.length = b.length ∧ sortL s b (symOf s a).2.1 = true) → 0 = (sortT s (Tree.mk a b)).getD 0 ∧ sortT s (Tree.mk a b) = none := fun h => by
        rw [e, if_neg h]; exact ⟨rfl, rfl⟩
      refine ⟨hg, fun h => no (fun h3 => by rw [h] at h3; cases h3.1), fun h => ⟨fun h2 => no (fun h3 => h2 (by omega)), fun h2 => ⟨⟨0, by simp, by omega, h, by simp, rfl⟩, fun k hk hb hf he => ⟨fun hlt => ?_, fun hge => ?_⟩⟩⟩⟩
      · rw [drop_get dT hlt, drop_get 0 (by omega : k < (symOf s a).2.1.length), sortL_cons] at he
        have bad : sortT s (b.getD k dT) ≠ some ((symOf s a).2.1.getD k 0) → 0 = (sortT s (Tree.mk a b)).getD 0 ∧ sortT s (Tree.mk a b) = none := fun h3 => no (fun h4 => by
          rw [decide_eq_false h3, Bool.false_and] at he
          rw [he] at h4; cases h4.2.2)
        refine ⟨hlt, hs, hg, (SmT.kids ht).mem (getD_mem dT hlt), by have := manyL_kids (getD_mem dT hlt); omega, fun h3 => bad (by rw [h3]; simp), fun h3 => ⟨by omega, fun h4 => bad (fun h5 => h4 (by rw [h5]; rfl)), fun h4 => ⟨k + 1, hlt, hb, hf, ?_, by omega, wrap_small (by omega) (by omega)⟩⟩⟩
        have h6 : sortT s (b.getD k dT) = some ((symOf s a).2.1.getD k 0) := by
          cases h7 : sortT s (b.getD k dT) with
          | none => rw [h7] at h3; cases h3
          | some m => rw [h7] at h4; simp only [Option.getD_some] at h4; rw [h4]
        rw [he, decide_eq_true h6, Bool.true_and]
      · rw [drop_end (by omega)] at he
        simp only [sortL] at he
        rw [e, if_pos ⟨hf, hb, he⟩]; exact ⟨rfl, rfl⟩)
theorem k_lOf : SoundC Tryz.prog K_lOf.1 K_lOf.2 := SoundC.fam (fun x => manyL x.2.2) fun n => k_l4Of n
theorem k_sOf : SoundC Tryz.prog K_sOf.1 K_sOf.2 := SoundC.fam (fun x => manyL x.2.2) fun n => k_sortOf n
theorem k_termSize (n : Nat) : SoundC Tryz.prog (K_termSize n).1 (K_termSize n).2 := by
  induction n with
  | zero => exact sound_of hm (CtxOK.nil.and k_iNameOk) (fun _ => []) (by kernel_rfl) fun (x : TP) hl => (by
      have h1 : SmT (.mk x.1 x.2) := hl.1
      clear hl
      rw [← vc_termSize0 x]
      obtain ⟨a, b⟩ := x
      dsimp only at *
      simp [-List.getD_eq_getElem?_getD, -List.mem_cons, -Bool.forall_bool, -Bool.exists_bool, and_assoc, peta, tl_inj, ex_1, ex_2, ex_3, ex_4, ex_5, ex_6, ex_7, ex_8, ex_9, ey_2, ey_3, ey_4, ey_5, ey_6, ey_7, ey_8, ey_9]
      exact ⟨(tm_size h1).1, fun _ => rfl, fun _ => ⟨fun _ => rfl, fun _ => rfl⟩⟩)
  | succ n ih => exact sound_of hm ((CtxOK.nil.and (K := K_termSize n) ih).and k_iNameOk) (fun x => A_termSize n x.1 x.2) (by kernel_rfl) fun (x : TP) hl => (by
      have h1 : SmT (.mk x.1 x.2) := hl.1
      have hn : n + 1 ≤ 4 := hl.2
      clear hl
      rw [← vc_termSize n x]
      obtain ⟨a, b⟩ := x
      dsimp only at *
      simp [-List.getD_eq_getElem?_getD, -List.mem_cons, -Bool.forall_bool, -Bool.exists_bool, and_assoc, peta, tl_inj, ex_1, ex_2, ex_3, ex_4, ex_5, ex_6, ex_7, ex_8, ex_9, ey_2, ey_3, ey_4, ey_5, ey_6, ey_7, ey_8, ey_9]
      obtain ⟨t1, t2⟩ := tm_size h1
      have et : tsz (n + 1) (.mk a b) = if (!nameOk a || decide (b.length > 2)) = true then 13 else 1 + sumN (tsz n) b := rfl
      have bad : (!nameOk a || decide (b.length > 2)) = true → (13 : Int) = tsz (n + 1) (.mk a b) := fun h => by
        rw [et, if_pos h]; rfl
      have good : nameOk a = true → b.length ≤ 2 → tsz (n + 1) (.mk a b) = 1 + sumN (tsz n) b := fun h h2 => by
        rw [et, if_neg]; simp [h]; omega
      refine ⟨t1, fun h => bad (by rw [h]; rfl), fun h => ⟨fun h2 => bad (by rw [decide_eq_true (by omega)]; simp), fun h2 => ⟨fun h3 => by omega, fun _ => ⟨⟨0, by simp, by omega, by simp [sumN], rfl⟩, fun k hk h2' => ⟨fun hlt => ?_, fun hge => ?_⟩⟩⟩⟩⟩
      · have ht := sumN_take (tsz n) dT hlt
        have hle := sumN_take_le (tsz n) b (k + 1)
        have h4 : sumN (tsz n) b ≤ b.length * 223 := sumN_le fun x _ => by
          have := tsz_le n x
          have : 2 ^ n ≤ 2 ^ 4 := Nat.pow_le_pow_right (by omega) (by omega)
          omega
        exact ⟨hlt, by rw [wrap_small (by omega) (by omega)]; omega, (SmT.kids h1).mem (getD_mem dT hlt), by omega, k + 1, hlt, h2', by omega, by rw [wrap_small (by omega) (by omega), ht]; omega, wrap_small (by omega) (by omega)⟩
      · rw [List.take_of_length_le hge, good h (by omega)]; omega)
theorem k_isTerm : SoundC Tryz.prog K_isTerm.1 K_isTerm.2 := sound_of hm (CtxOK.nil.and (K := K_termSize 4) (k_termSize 4)) (fun _ => []) (by kernel_rfl) fun (a, b) hl => cast (vc_isTerm a b) (by
  replace hl : SmT (.mk a b) := hl
  simp [-List.getD_eq_getElem?_getD, -List.mem_cons, -Bool.forall_bool, -Bool.exists_bool, and_assoc, peta, tl_inj, ex_1, ex_2, ex_3, ex_4, ex_5, ex_6, ex_7, ex_8, ex_9, ey_2, ey_3, ey_4, ey_5, ey_6, ey_7, ey_8, ey_9]
  refine ⟨hl, ?_⟩
  rw [← isTerm_right]
  unfold isTerm
  congr 1; simp only [eq_iff_iff]; omega)
theorem ts_no {s : Sig} {t : Tm} (h : (sigOk s && right t) = false) : 0 = (termSort s t).1 ∧ (termSort s t).2 = false := by
  unfold termSort; rw [h]; exact ⟨rfl, rfl⟩
theorem ts_yes {s : Sig} {t : Tm} (h1 : sigOk s = true) (h2 : right t = true) : termSort s t = ((sortT s t).getD 0, (sortT s t).isSome) := by
  unfold termSort; rw [h1, h2]; rfl
theorem k_iTermSort : SoundC Tryz.prog K_iTermSort.1 K_iTermSort.2 := sound_of hm (((CtxOK.nil.and k_sOf).and k_isTerm).and k_iSigOk) (fun _ => []) (by kernel_rfl) fun (s, a, b) hl => cast (vc_iTermSort s a b) (by
  obtain ⟨hg, ht⟩ : SmG s ∧ SmT (.mk a b) := hl
  simp [-List.getD_eq_getElem?_getD, -List.mem_cons, -Bool.forall_bool, -Bool.exists_bool, and_assoc, peta, tl_inj, ex_1, ex_2, ex_3, ex_4, ex_5, ex_6, ex_7, ex_8, ex_9, ey_2, ey_3, ey_4, ey_5, ey_6, ey_7, ey_8, ey_9]
  exact ⟨hg, fun h => ts_no (by rw [h]; rfl), fun h => ⟨ht, fun h2 => ts_no (by rw [h, h2]; rfl), fun h2 => ⟨h, hg, ht, by rw [ts_yes h h2], by rw [ts_yes h h2]⟩⟩⟩)
end Cg

/-
  The codes' contracts: models: sizes, copies, equality. No condition.
-/
set_option linter.unusedVariables false
set_option linter.unusedSimpArgs false
set_option maxRecDepth 100000
set_option maxHeartbeats 1000000
namespace Cg
open Go Go.Proofs Pl
theorem SmM.mem {m : Mdl} (h : SmM m) {x : Rw} (hx : x ∈ m) : x.1.size ≤ 1048576 ∧ x.2.1.length ≤ 1048576 := by
  have h1 : m.length + sumN costR m ≤ 1048576 := h
  have h2 := sumN_mem costR hx
  have h3 : costR x = x.1.size + x.2.1.length := rfl
  omega
theorem SmM.len {m : Mdl} (h : SmM m) : m.length ≤ 1048576 := by
  have h1 : m.length + sumN costR m ≤ 1048576 := h
  omega

theorem k_l7Rats : SoundC Tryz.prog K_l7Rats.1 K_l7Rats.2 := sound_of hm CtxOK.nil (fun x => A_l7Rats x.1 x.2) (by kernel_rfl) fun (x : List Rt × List Rt) hl => (by
  rw [← vc_l7Rats x]
  have hlen : x.1.length ≤ 4294967296 := hl
  obtain ⟨l, m⟩ := x
  dsimp only at *
  simp [-List.getD_eq_getElem?_getD, -List.mem_cons, -Bool.forall_bool, -Bool.exists_bool, and_assoc, peta, tl_inj, ex_1, ex_2, ex_3, ex_4, ex_5, ex_6, ex_7, ex_8, ex_9, ey_2, ey_3, ey_4, ey_5, ey_6, ey_7, ey_8, ey_9]
  refine ⟨fun h e => h (by rw [e]), fun h => ⟨⟨0, by simp; omega⟩, fun k hk hlm he => ⟨fun hlt => ⟨hlt, by omega, fun h => (eq_step dQ hlt hlm he).1 (fun e => by rw [e] at h; simp at h), fun h1 h2 => ⟨k + 1, hlt, hlm, (eq_step dQ hlt hlm he).2 (Prod.ext h1 h2), by omega, wrap_small (by omega) (by omega)⟩⟩, fun hge => ?_⟩⟩⟩
  rw [drop_end (by omega), drop_end (l := m) (by omega)] at he
  exact he.2 rfl)

end Cg

/-
  The codes' contracts: valid models. No condition.
-/
set_option linter.unusedVariables false
set_option linter.unusedSimpArgs false
set_option maxRecDepth 100000
set_option maxHeartbeats 1000000
namespace Pl
open Go Cg
theorem bl_asymm : ∀ {x y : List UInt8}, Op.bytesLess x y = true → Op.bytesLess y x = false
  | [], [], _ => rfl
  | _ :: _, [], h => by cases h
  | [], _ :: _, _ => rfl
  | a :: x, b :: y, h => by
    simp only [Op.bytesLess, Bool.or_eq_true, decide_eq_true_eq, Bool.and_eq_true, beq_iff_eq] at h
    simp only [Op.bytesLess, Bool.or_eq_false_iff, decide_eq_false_iff_not, Bool.and_eq_false_iff]
    rcases h with h | ⟨h, h1⟩
    · exact ⟨fun h2 => by simp only [UInt8.lt_iff_toNat_lt] at h h2; omega, .inl (by simp only [beq_eq_false_iff_ne]; intro e; subst e; simp only [UInt8.lt_iff_toNat_lt] at h; omega)⟩
    · subst h
      exact ⟨fun h2 => by simp only [UInt8.lt_iff_toNat_lt] at h2; omega, .inr (bl_asymm h1)⟩
theorem bl_total : ∀ {x y : List UInt8}, Op.bytesLess x y = false → Op.bytesLess y x = false → x = y
  | [], [], _, _ => rfl
  | [], _ :: _, h, _ => by cases h
  | _ :: _, [], _, h => by cases h
  | a :: x, b :: y, h, h' => by
    simp only [Op.bytesLess, Bool.or_eq_false_iff, decide_eq_false_iff_not, Bool.and_eq_false_iff, beq_eq_false_iff_ne] at h h'
    have e : a = b := by
      have h1 := h.1
      have h2 := h'.1
      simp only [UInt8.lt_iff_toNat_lt] at h1 h2
      exact UInt8.toNat_inj.1 (by omega)
    subst e
    have h1 : Op.bytesLess x y = false := by rcases h.2 with h | h <;> simp_all
    have h2 : Op.bytesLess y x = false := by rcases h'.2 with h | h <;> simp_all
    rw [bl_total h1 h2]
theorem bl_irrefl (x : List UInt8) : Op.bytesLess x x = false := by
  cases h : Op.bytesLess x x with
  | false => rfl
  | true => rw [bl_asymm h] at h; cases h
theorem tl_inj' {a b : ByteArray} (h : a.toList = b.toList) : a = b := Cg.tl_inj.1 h
theorem cmpS_zero {a b : ByteArray} : cmpS a b = 0 ↔ a = b := by
  unfold cmpS sLess
  constructor
  · intro h
    cases h1 : Op.bytesLess a.toList b.toList <;> simp only [h1, if_true, if_false] at h
    · cases h2 : Op.bytesLess b.toList a.toList <;> simp only [h2] at h
      · exact tl_inj' (bl_total h1 h2)
      · simp at h
    · simp at h
  · rintro rfl; simp [bl_irrefl]
theorem cmpS_neg {a b : ByteArray} : cmpS a b < 0 ↔ sLess a b = true := by
  unfold cmpS
  cases h1 : sLess a b <;> simp
  split <;> omega
theorem cmpI_zero {a b : Int} : cmpI a b = 0 ↔ a = b := by unfold cmpI; split <;> (try split) <;> omega
theorem cmpI_neg {a b : Int} : cmpI a b < 0 ↔ a < b := by unfold cmpI; split <;> (try split) <;> omega
theorem ratOk_iff {x : Rt} : ratOk x = true ↔ -1000000000 ≤ x.1 ∧ x.1 ≤ 1000000000 ∧ 1 ≤ x.2 ∧ x.2 ≤ 1000000000 ∧ Nat.gcd x.1.natAbs x.2.natAbs = 1 := by
  simp only [ratOk, Bool.and_eq_true, decide_eq_true_eq, and_assoc]
theorem rat_eq {x y : Rt} (hx : ratOk x = true) (hy : ratOk y = true) (h : x.1 * y.2 = y.1 * x.2) : x = y := by
  obtain ⟨a, b⟩ := x
  obtain ⟨c, d⟩ := y
  obtain ⟨h1, h2, h3, h4, h5⟩ := ratOk_iff.1 hx
  obtain ⟨k1, k2, k3, k4, k5⟩ := ratOk_iff.1 hy
  dsimp only at *
  have hn : a.natAbs * d.natAbs = c.natAbs * b.natAbs := by rw [← Int.natAbs_mul, ← Int.natAbs_mul, h]
  have hbd : b.natAbs ∣ d.natAbs := Nat.Coprime.dvd_of_dvd_mul_left (m := a.natAbs) (Nat.coprime_comm.1 h5) (hn ▸ Nat.dvd_mul_left _ _)
  have hdb : d.natAbs ∣ b.natAbs := Nat.Coprime.dvd_of_dvd_mul_left (m := c.natAbs) (Nat.coprime_comm.1 k5) (hn ▸ Nat.dvd_mul_left _ _)
  have hbd' : b.natAbs = d.natAbs := Nat.dvd_antisymm hbd hdb
  have e : b = d := by omega
  subst e
  exact Prod.ext (Int.eq_of_mul_eq_mul_right (by omega) h) rfl
theorem cmpRat_zero {x y : Rt} (hx : ratOk x = true) (hy : ratOk y = true) : cmpRat x y = 0 ↔ x = y := by
  constructor
  · intro h
    unfold cmpRat ratLess at h
    rw [hx, hy] at h
    simp only [Bool.and_true, Bool.true_and, decide_eq_true_eq] at h
    apply rat_eq hx hy
    split at h
    · omega
    · split at h
      · omega
      · omega
  · rintro rfl
    have : ratLess x x = false := by unfold ratLess; simp
    unfold cmpRat; rw [this]; rfl
theorem cmpRat_neg {x y : Rt} : cmpRat x y < 0 ↔ ratLess x y = true := by
  unfold cmpRat
  cases ratLess x y <;> simp
  split <;> omega
theorem cmpArgs_neg : ∀ {a b : List Rt}, a.length = b.length → a.all ratOk = true → b.all ratOk = true → (cmpArgs a b < 0 ↔ argsLess a b = true)
  | [], [], _, _, _ => by simp [cmpArgs, argsLess]
  | [], _ :: _, h, _, _ => by simp at h
  | _ :: _, [], h, _, _ => by simp at h
  | x :: a, y :: b, h, ha, hb => by
    simp only [List.all_cons, Bool.and_eq_true] at ha hb
    simp only [cmpArgs, argsLess, cmpRat_zero ha.1 hb.1]
    split
    · exact cmpArgs_neg (by simpa using h) ha.2 hb.2
    · exact cmpRat_neg
theorem rowOk_iff {x : Rw} : rowOk x = true ↔ nameOk x.1 = true ∧ x.2.1.length ≤ 2 ∧ ratOk x.2.2 = true ∧ x.2.1.all ratOk = true := by
  simp only [rowOk, Bool.and_eq_true, decide_eq_true_eq, and_assoc]
theorem cmpRows_neg {x y : Rw} (hx : rowOk x = true) (hy : rowOk y = true) : cmpRows x y < 0 ↔ rowLess x y = true := by
  have ha := (rowOk_iff.1 hx).2.2.2
  have hb := (rowOk_iff.1 hy).2.2.2
  unfold cmpRows rowLess
  simp only [orI, cmpS_zero, cmpI_zero]
  by_cases h1 : x.1 = y.1
  · rw [if_pos h1, if_pos h1]
    by_cases h2 : x.2.1.length = y.2.1.length
    · rw [if_pos (by omega), if_pos h2]
      have := cmpArgs_neg h2 ha hb
      split
      · rename_i h3; rw [← this, h3]
      · exact this
    · rw [if_neg (by omega), if_neg h2, cmpI_neg]
      simp only [decide_eq_true_eq]; omega
  · rw [if_neg h1, if_neg h1]; exact cmpS_neg
end Pl
namespace Cg
open Go Go.Proofs Pl

theorem k_l1Abs : SoundC Tryz.prog K_l1Abs.1 K_l1Abs.2 := sound_of hm CtxOK.nil (fun _ => []) (by kernel_rfl) fun (x : Int) hl => (by
  rw [← vc_l1Abs x]
  simp [-List.getD_eq_getElem?_getD, -List.mem_cons, -Bool.forall_bool, -Bool.exists_bool, and_assoc, peta, tl_inj, ex_1, ex_2, ex_3, ex_4, ex_5, ex_6, ex_7, ex_8, ex_9, ey_2, ey_3, ey_4, ey_5, ey_6, ey_7, ey_8, ey_9]
  unfold abs1
  refine ⟨fun h => by rw [if_pos (.inl h)], fun h => ⟨fun h2 => by rw [if_pos (.inr h2)], fun h2 => ⟨fun h3 => ?_, fun h3 => ?_⟩⟩⟩
  · rw [if_neg (by omega), if_pos h3, wrap_small (by omega) (by omega)]
  · rw [if_neg (by omega), if_neg (by omega)])

theorem gcd_step {u v n : Nat} (g1 : u ≤ 4611686018427387904) (g2 : v ≤ 4611686018427387904) (g3 : u.gcd v = n) : (0 < v →
      ¬v = 0 ∧
        ∃ a_2 : Nat, a_2 ≤ 4611686018427387904 ∧ ∃ x : Nat, x ≤ 4611686018427387904 ∧ a_2.gcd x = n ∧ x < v ∧ (v : Int) = (a_2 : Int) ∧ (u : Int).tmod (v : Int) = (x : Int)) ∧
    (v = 0 → (u : Int) = (n : Int)) := by
  refine ⟨fun h => ⟨by omega, v, g2, u % v, ?_, ?_, Nat.mod_lt _ h, rfl, (Int.ofNat_tmod u v).symm⟩, fun h => ?_⟩
  · have := Nat.mod_lt u h; omega
  · rw [← g3, Nat.gcd_comm v, Nat.gcd_comm u, ← Nat.gcd_rec]
  · subst h; rw [Nat.gcd_zero_right] at g3; rw [g3]

theorem k_l1Gcd : SoundC Tryz.prog K_l1Gcd.1 K_l1Gcd.2 := sound_of hm CtxOK.nil (fun x => A_l1Gcd x.1 x.2) (by kernel_rfl) fun (x : Nat × Nat) hl => (by
  obtain ⟨h1, h2⟩ : x.1 ≤ 4611686018427387904 ∧ x.2 ≤ 4611686018427387904 := hl
  obtain ⟨a, b⟩ := x
  rw [← vc_l1Gcd a b]
  dsimp only at *
  refine ⟨⟨(a, b), ⟨h1, h2, rfl⟩, ⟨rfl, rfl, trivial⟩, trivial⟩, fun (u, v) ⟨g1, g2, g3⟩ => ?_⟩
  dsimp only at *
  simp [-List.getD_eq_getElem?_getD, -List.mem_cons, -Bool.forall_bool, -Bool.exists_bool, and_assoc, peta, tl_inj, ex_1, ex_2, ex_3, ex_4, ex_5, ex_6, ex_7, ex_8, ex_9, ey_2, ey_3, ey_4, ey_5, ey_6, ey_7, ey_8, ey_9]
  exact gcd_step g1 g2 g3)

theorem k_gcd : SoundC Tryz.prog K_gcd.1 K_gcd.2 := sound_of hm CtxOK.nil (fun x => A_gcd x.1 x.2) (by kernel_rfl) fun (x : Int × Int) hl => (by
  obtain ⟨h1, h2⟩ : x.1.natAbs ≤ 4611686018427387904 ∧ x.2.natAbs ≤ 4611686018427387904 := hl
  obtain ⟨a, b⟩ := x
  rw [← vc_gcd a b]
  dsimp only at *
  rw [wrap_small (x := 0 - a) (by omega) (by omega), wrap_small (x := 0 - b) (by omega) (by omega)]
  refine ⟨⟨(a.natAbs, b.natAbs), ⟨h1, h2, rfl⟩, ⟨by split <;> omega, by split <;> omega, trivial⟩, trivial⟩, fun (u, v) ⟨g1, g2, g3⟩ => ?_⟩
  dsimp only at *
  simp [-List.getD_eq_getElem?_getD, -List.mem_cons, -Bool.forall_bool, -Bool.exists_bool, and_assoc, peta, tl_inj, ex_1, ex_2, ex_3, ex_4, ex_5, ex_6, ex_7, ex_8, ex_9, ey_2, ey_3, ey_4, ey_5, ey_6, ey_7, ey_8, ey_9]
  exact gcd_step g1 g2 g3)

theorem k_sRatOk : SoundC Tryz.prog K_sRatOk.1 K_sRatOk.2 := sound_of hm ((CtxOK.nil.and k_l1Gcd).and k_l1Abs) (fun _ => []) (by kernel_rfl) fun (x : Rt) hl => (by
  rw [← vc_sRatOk x]
  obtain ⟨a, b⟩ := x
  dsimp only at *
  simp [-List.getD_eq_getElem?_getD, -List.mem_cons, -Bool.forall_bool, -Bool.exists_bool, and_assoc, peta, tl_inj, ex_1, ex_2, ex_3, ex_4, ex_5, ex_6, ex_7, ex_8, ex_9, ey_2, ey_3, ey_4, ey_5, ey_6, ey_7, ey_8, ey_9]
  have no : (ratOk (a, b) = true → False) → ratOk (a, b) = false := fun h => by cases h1 : ratOk (a, b) with
    | false => rfl
    | true => exact (h h1).elim
  have e : abs1 a ≤ 1000000000 ↔ -1000000000 ≤ a ∧ a ≤ 1000000000 := by unfold abs1; split <;> (try split) <;> omega
  refine ⟨fun h1 => ⟨fun h2 => ⟨fun h3 => ?_, fun h3 => no fun h => ?_⟩, fun h2 => no fun h => ?_⟩, fun h1 => no fun h => ?_⟩
  · obtain ⟨u1, u2⟩ := e.1 h1
    refine ⟨a.natAbs, ?_, b.natAbs, by omega, by omega, by omega, ?_⟩
    · unfold abs1; rw [if_neg (by omega)]; split <;> omega
    · unfold ratOk
      simp only
      rw [decide_eq_true u1, decide_eq_true u2, decide_eq_true h2, decide_eq_true h3, Bool.beq_eq_decide_eq]
      simp only [Bool.true_and]
      congr 1
      simp only [eq_iff_iff]; omega
  all_goals
    have := ratOk_iff.1 h
    dsimp only at this
    omega)

theorem k_iRatOk : SoundC Tryz.prog K_iRatOk.1 K_iRatOk.2 := sound_of hm ((CtxOK.nil.and k_gcd).and k_within) (fun _ => []) (by kernel_rfl) fun (x : Rt) hl => (by
  rw [← vc_iRatOk x]
  obtain ⟨a, b⟩ := x
  dsimp only at *
  simp [-List.getD_eq_getElem?_getD, -List.mem_cons, -Bool.forall_bool, -Bool.exists_bool, and_assoc, peta, tl_inj, ex_1, ex_2, ex_3, ex_4, ex_5, ex_6, ex_7, ex_8, ex_9, ey_2, ey_3, ey_4, ey_5, ey_6, ey_7, ey_8, ey_9]
  simp only [withinI, Bool.and_eq_true, decide_eq_true_eq, Bool.and_eq_false_iff, decide_eq_false_iff_not]
  have no : (ratOk (a, b) = true → False) → ratOk (a, b) = false := fun h => by cases h1 : ratOk (a, b) with
    | false => rfl
    | true => exact (h h1).elim
  refine ⟨fun h1 => ⟨fun h2 => ⟨by omega, by omega, ?_⟩, fun h2 => no fun h => ?_⟩, fun h1 => no fun h => ?_⟩
  · unfold ratOk
    simp only
    rw [decide_eq_true h1.1, decide_eq_true h1.2, decide_eq_true h2.1, decide_eq_true h2.2, Bool.beq_eq_decide_eq]
    simp only [Bool.true_and]
    congr 1
    simp only [eq_iff_iff]; omega
  all_goals
    have := ratOk_iff.1 h
    dsimp only at this
    omega)

theorem less_vc (x : Rt × Rt) : (Exists fun (x_1 : Pl.Rt) =>
 ((x.fst.fst = x_1.fst ∧ x.fst.snd = x_1.snd ∧ True) ∧ True) ∧
 True ∧
 condP (Pl.ratOk x_1)
 (Exists fun (x_2 : Pl.Rt) =>
 ((x.snd.fst = x_2.fst ∧ x.snd.snd = x_2.snd ∧ True) ∧ True) ∧
 True ∧
 condP (Pl.ratOk x_2) (Decidable.decide (IntKind.i64.wrap (x.fst.fst * x.snd.snd) < IntKind.i64.wrap (x.snd.fst * x.fst.snd)) = Pl.ratLess x.fst x.snd)
 (Bool.false = Pl.ratLess x.fst x.snd))
 (Bool.false = Pl.ratLess x.fst x.snd)) := by
  obtain ⟨⟨a, b⟩, c, d⟩ := x
  dsimp only at *
  simp [-List.getD_eq_getElem?_getD, -List.mem_cons, -Bool.forall_bool, -Bool.exists_bool, and_assoc, peta, tl_inj, ex_1, ex_2, ex_3, ex_4, ex_5, ex_6, ex_7, ex_8, ex_9, ey_2, ey_3, ey_4, ey_5, ey_6, ey_7, ey_8, ey_9]
  refine ⟨fun h => ⟨fun h2 => ?_, fun h2 => by unfold ratLess; rw [h2]; simp⟩, fun h => by unfold ratLess; rw [h]; simp⟩
  obtain ⟨h1, h2', h3, h4, h5⟩ := ratOk_iff.1 h
  obtain ⟨k1, k2, k3, k4, k5⟩ := ratOk_iff.1 h2
  unfold ratLess
  rw [h, h2]
  dsimp only at *
  have w : ∀ {p q : Int}, -1000000000 ≤ p → p ≤ 1000000000 → 1 ≤ q → q ≤ 1000000000 → IntKind.i64.wrap (p * q) = p * q := fun {p q} e1 e2 e3 e4 => by
    have u1 : p * q ≤ 1000000000 * q := Int.mul_le_mul_of_nonneg_right e2 (by omega)
    have u2 : -1000000000 * q ≤ p * q := Int.mul_le_mul_of_nonneg_right e1 (by omega)
    exact wrap_small (by omega) (by omega)
  rw [w h1 h2' k3 k4, w k1 k2 h3 h4]
  simp
theorem k_sRatLess : SoundC Tryz.prog K_sRatLess.1 K_sRatLess.2 := sound_of hm (CtxOK.nil.and k_sRatOk) (fun _ => []) (by kernel_rfl) fun (x : Rt × Rt) hl => (by
  rw [← vc_sRatLess x]; exact less_vc x)
theorem k_iRatLess : SoundC Tryz.prog K_iRatLess.1 K_iRatLess.2 := sound_of hm (CtxOK.nil.and k_iRatOk) (fun _ => []) (by kernel_rfl) fun (x : Rt × Rt) hl => (by
  rw [← vc_iRatLess x]; exact less_vc x)
theorem k_compareRats : SoundC Tryz.prog K_compareRats.1 K_compareRats.2 := sound_of hm (CtxOK.nil.and k_iRatLess) (fun _ => []) (by kernel_rfl) fun (x : Rt × Rt) hl => (by
  rw [← vc_compareRats x]
  obtain ⟨⟨a, b⟩, c, d⟩ := x
  dsimp only at *
  simp [-List.getD_eq_getElem?_getD, -List.mem_cons, -Bool.forall_bool, -Bool.exists_bool, and_assoc, peta, tl_inj, ex_1, ex_2, ex_3, ex_4, ex_5, ex_6, ex_7, ex_8, ex_9, ey_2, ey_3, ey_4, ey_5, ey_6, ey_7, ey_8, ey_9]
  unfold cmpRat
  refine ⟨fun h => by rw [if_pos h], fun h => ⟨fun h2 => by rw [if_neg (by rw [h]; simp), if_pos h2], fun h2 => by rw [h, h2]; rfl⟩⟩)

theorem all_stepR {α : Type} (d : α) (p : α → Bool) {l : List α} {k : Nat} (hk : k < l.length) (he : l.all p = (l.drop k).all p) : (p (l.getD k d) = false → l.all p = false) ∧ (p (l.getD k d) = true → l.all p = (l.drop (k + 1)).all p) := by
  rw [drop_get d hk, List.all_cons] at he
  exact ⟨fun h => by rw [he, h]; rfl, fun h => by rw [he, h]; rfl⟩

theorem k_l7Row : SoundC Tryz.prog K_l7Row.1 K_l7Row.2 := sound_of hm ((CtxOK.nil.and k_sNameOk).and k_sRatOk) (fun x => A_l7Row x) (by kernel_rfl) fun (x : Rw) hl => (by
  rw [← vc_l7Row x]
  obtain ⟨h1, h2⟩ : x.1.size ≤ 1048576 ∧ x.2.1.length ≤ 1048576 := hl
  obtain ⟨nm, args, v⟩ := x
  dsimp only at *
  simp [-List.getD_eq_getElem?_getD, -List.mem_cons, -Bool.forall_bool, -Bool.exists_bool, and_assoc, peta, tl_inj, ex_1, ex_2, ex_3, ex_4, ex_5, ex_6, ex_7, ex_8, ex_9, ey_2, ey_3, ey_4, ey_5, ey_6, ey_7, ey_8, ey_9]
  refine ⟨⟨0, by simp, by simp, rfl⟩, fun k hk he => ⟨fun hlt => ?_, fun hge => ?_⟩⟩
  · obtain ⟨e1, e2⟩ := all_stepR dQ ratOk hlt he
    exact ⟨hlt, fun h => by simp [rowOk, e1 h], fun h => ⟨k + 1, hlt, e2 h, by omega, wrap_small (by omega) (by omega)⟩⟩
  · rw [drop_end (by omega)] at he
    simp only [rowOk]
    rw [he]
    refine ⟨h1, fun h => ⟨fun h3 => ?_, fun h3 => ?_⟩, fun h => by rw [h]; rfl⟩
    · rw [h, decide_eq_true (by omega : args.length ≤ 2)]; simp
    · rw [decide_eq_false (by omega : ¬ args.length ≤ 2)]; simp)

theorem less_step {a b : List Rt} {k : Nat} (h1 : k < a.length) (h2 : k < b.length) : argsLess (a.drop k) (b.drop k) = if a.getD k dQ = b.getD k dQ then argsLess (a.drop (k + 1)) (b.drop (k + 1)) else ratLess (a.getD k dQ) (b.getD k dQ) := by
  rw [drop_get dQ h1, drop_get dQ h2]; rfl

theorem k_l7Less : SoundC Tryz.prog K_l7Less.1 K_l7Less.2 := sound_of hm (CtxOK.nil.and k_sRatLess) (fun x => A_l7Less x.1 x.2) (by kernel_rfl) fun (x : Rw × Rw) hl => (by
  rw [← vc_l7Less x]
  have h1 : x.1.2.1.length ≤ 1048576 := hl
  obtain ⟨⟨nm, args, u1, u2⟩, nm', args', u1', u2'⟩ := x
  dsimp only at *
  simp [-List.getD_eq_getElem?_getD, -List.mem_cons, -Bool.forall_bool, -Bool.exists_bool, and_assoc, peta, tl_inj, ex_1, ex_2, ex_3, ex_4, ex_5, ex_6, ex_7, ex_8, ex_9, ey_2, ey_3, ey_4, ey_5, ey_6, ey_7, ey_8, ey_9]
  unfold rowLess
  dsimp only
  refine ⟨fun h => by rw [if_neg h]; rfl, fun h => ⟨fun h3 => by rw [if_pos h, if_neg (by omega)], fun h3 => ?_⟩⟩
  rw [if_pos h, if_pos (by omega)]
  refine ⟨⟨0, by simp, by omega, by simp, rfl⟩, fun k hk he hs => ⟨fun hlt => ?_, fun hge => ?_⟩⟩
  · rw [less_step hlt (by omega)] at hs
    refine ⟨hlt, by omega, fun h4 => ⟨hlt, by omega, ?_⟩, fun h4 h5 => ⟨k + 1, hlt, he, ?_, by omega, wrap_small (by omega) (by omega)⟩⟩
    · rw [hs, if_neg]
      intro e; rw [e] at h4; simp at h4
    · rw [hs, if_pos (Prod.ext h4 h5)]
  · rw [hs, drop_end (by omega)]; rfl)

theorem k_RowOk1 : SoundC Tryz.prog K_RowOk1.1 K_RowOk1.2 := sound_of hm (CtxOK.nil.and k_iRatOk) (fun _ => []) (by kernel_rfl) fun (x : Rt) hl => (by
  rw [← vc_RowOk1 x]
  simp [-List.getD_eq_getElem?_getD, -List.mem_cons, -Bool.forall_bool, -Bool.exists_bool, and_assoc, peta, tl_inj, ex_1, ex_2, ex_3, ex_4, ex_5, ex_6, ex_7, ex_8, ex_9, ey_2, ey_3, ey_4, ey_5, ey_6, ey_7, ey_8, ey_9])

theorem k_IndexRat : SoundC Tryz.prog K_IndexRat.1 K_IndexRat.2 := sound_of hm (CtxOK.nil.and k_RowOk1) (fun x => A_IndexRat x) (by kernel_rfl) fun (l : List Rt) hl => (by
  rw [← vc_IndexRat l]
  replace hl : Sz l := hl
  simp [-List.getD_eq_getElem?_getD, -List.mem_cons, -Bool.forall_bool, -Bool.exists_bool, and_assoc, peta, tl_inj, ex_1, ex_2, ex_3, ex_4, ex_5, ex_6, ex_7, ex_8, ex_9, ey_2, ey_3, ey_4, ey_5, ey_6, ey_7, ey_8, ey_9]
  exact ⟨⟨0, by simp, idx_init _ _, rfl⟩, fun k hk he => ⟨fun hlt => ⟨hlt, fun h => (idx_step dQ _ hlt he).1 (by simp [h, -List.getD_eq_getElem?_getD]), fun h => ⟨k + 1, hlt, (idx_step dQ _ hlt he).2 (by simp [h, -List.getD_eq_getElem?_getD]), by omega, wrap_succ hlt hl⟩⟩, fun hge => idx_end _ hge he⟩⟩)
theorem k_ContainsRat : SoundC Tryz.prog K_ContainsRat.1 K_ContainsRat.2 := sound_of hm (CtxOK.nil.and k_IndexRat) (fun _ => []) (by kernel_rfl) fun (l : List Rt) hl => (by
  rw [← vc_ContainsRat l]
  replace hl : Sz l := hl
  simp only [idx_any]
  simp [-List.getD_eq_getElem?_getD, -List.mem_cons, -Bool.forall_bool, -Bool.exists_bool, and_assoc, peta, tl_inj, ex_1, ex_2, ex_3, ex_4, ex_5, ex_6, ex_7, ex_8, ex_9, ey_2, ey_3, ey_4, ey_5, ey_6, ey_7, ey_8, ey_9]
  exact hl)
theorem k_rowOk : SoundC Tryz.prog K_rowOk.1 K_rowOk.2 := sound_of hm (((CtxOK.nil.and k_ContainsRat).and k_iRatOk).and k_iNameOk) (fun _ => []) (by kernel_rfl) fun (x : Rw) hl => (by
  rw [← vc_rowOk x]
  obtain ⟨h1, h2⟩ : x.1.size ≤ 1048576 ∧ x.2.1.length ≤ 1048576 := hl
  obtain ⟨nm, args, v⟩ := x
  dsimp only at *
  simp [-List.getD_eq_getElem?_getD, -List.mem_cons, -Bool.forall_bool, -Bool.exists_bool, and_assoc, peta, tl_inj, ex_1, ex_2, ex_3, ex_4, ex_5, ex_6, ex_7, ex_8, ex_9, ey_2, ey_3, ey_4, ey_5, ey_6, ey_7, ey_8, ey_9]
  simp only [rowOk]
  refine ⟨h1, fun h => ⟨fun h3 => ⟨fun h4 => ⟨by omega, ?_⟩, fun h4 => by rw [h4]; simp⟩, fun h3 => ?_⟩, fun h => by rw [h]; rfl⟩
  · rw [h, h4, decide_eq_true (by omega : args.length ≤ 2), all_any]; simp
  · rw [decide_eq_false (by omega : ¬ args.length ≤ 2)]; simp)

theorem k_isNaNS : SoundC Tryz.prog K_isNaNS.1 K_isNaNS.2 := sound_of hm CtxOK.nil (fun _ => []) (by kernel_rfl) fun (x : ByteArray) hl => (by
  rw [← vc_isNaNS x]; simp)
theorem k_isNaNI : SoundC Tryz.prog K_isNaNI.1 K_isNaNI.2 := sound_of hm CtxOK.nil (fun _ => []) (by kernel_rfl) fun (x : Int) hl => (by
  rw [← vc_isNaNI x]; simp)
theorem k_CompareS : SoundC Tryz.prog K_CompareS.1 K_CompareS.2 := sound_of hm (CtxOK.nil.and k_isNaNS) (fun _ => []) (by kernel_rfl) fun (x : ByteArray × ByteArray) hl => (by
  rw [← vc_CompareS x]
  obtain ⟨a, b⟩ := x
  refine ⟨a, ⟨rfl, trivial⟩, trivial, b, ⟨rfl, trivial⟩, trivial, ?_⟩
  dsimp only
  unfold cmpS sLess
  cases h1 : Op.bytesLess a.toList b.toList with
  | true => simp [condP]
  | false =>
    cases h2 : Op.bytesLess b.toList a.toList with
    | true =>
      have : (a.toList == b.toList) = false := by
        simp only [beq_eq_false_iff_ne]; intro e; rw [e, bl_irrefl] at h2; cases h2
      simp [condP, this]
    | false =>
      have := bl_total h1 h2
      simp [condP, this])
theorem k_CompareI : SoundC Tryz.prog K_CompareI.1 K_CompareI.2 := sound_of hm (CtxOK.nil.and k_isNaNI) (fun _ => []) (by kernel_rfl) fun (x : Int × Int) hl => (by
  rw [← vc_CompareI x]
  obtain ⟨a, b⟩ := x
  dsimp only at *
  simp [-List.getD_eq_getElem?_getD, -List.mem_cons, -Bool.forall_bool, -Bool.exists_bool, and_assoc, peta, tl_inj, ex_1, ex_2, ex_3, ex_4, ex_5, ex_6, ex_7, ex_8, ex_9, ey_2, ey_3, ey_4, ey_5, ey_6, ey_7, ey_8, ey_9]
  unfold cmpI
  refine ⟨fun h => by rw [if_pos h], fun h => ⟨fun h2 => by rw [if_neg (by omega), if_pos h2], fun h2 => by rw [if_neg (by omega), if_neg (by omega)]⟩⟩)
theorem k_Or : SoundC Tryz.prog K_Or.1 K_Or.2 := sound_of hm CtxOK.nil (fun x => A_Or x) (by kernel_rfl) fun (x : List Int) hl => (by
  rw [← vc_Or x]
  replace hl : Sz x := hl
  simp [-List.getD_eq_getElem?_getD, -List.mem_cons, -Bool.forall_bool, -Bool.exists_bool, and_assoc, peta, tl_inj, ex_1, ex_2, ex_3, ex_4, ex_5, ex_6, ex_7, ex_8, ex_9, ey_2, ey_3, ey_4, ey_5, ey_6, ey_7, ey_8, ey_9]
  refine ⟨⟨0, by simp, by simp, rfl⟩, fun k hk he => ⟨fun hlt => ?_, fun hge => ?_⟩⟩
  · rw [drop_get 0 hlt] at he
    simp only [orI] at he
    exact ⟨hlt, fun h => by rw [he, if_neg h], fun h => ⟨k + 1, hlt, by rw [he, if_pos h], by omega, wrap_succ hlt hl⟩⟩
  · rw [he, drop_end (by omega)]; rfl)
theorem k_CompareFunc : SoundC Tryz.prog K_CompareFunc.1 K_CompareFunc.2 := sound_of hm (CtxOK.nil.and k_compareRats) (fun x => A_CompareFunc x.1 x.2) (by kernel_rfl) fun (x : List Rt × List Rt) hl => (by
  rw [← vc_CompareFunc x]
  obtain ⟨h1, h2⟩ : Sz x.1 ∧ Sz x.2 := hl
  obtain ⟨a, b⟩ := x
  dsimp only at *
  simp [-List.getD_eq_getElem?_getD, -List.mem_cons, -Bool.forall_bool, -Bool.exists_bool, and_assoc, peta, tl_inj, ex_1, ex_2, ex_3, ex_4, ex_5, ex_6, ex_7, ex_8, ex_9, ey_2, ey_3, ey_4, ey_5, ey_6, ey_7, ey_8, ey_9]
  refine ⟨⟨0, by simp, by simp, by simp, rfl⟩, fun k hk hk2 he => ⟨fun hlt => ⟨hlt, fun h => ?_, fun h => ?_⟩, fun hge => ⟨fun h => ?_, fun h => ?_⟩⟩⟩
  · rw [he, drop_get dQ hlt, drop_end (l := b) (by omega)]; rfl
  · rw [drop_get dQ hlt, drop_get dQ h] at he
    simp only [cmpArgs] at he
    exact ⟨h, fun h3 => by rw [he, if_neg h3], fun h3 => ⟨k + 1, hlt, h, by rw [he, if_pos h3], by omega, wrap_succ hlt h1⟩⟩
  · rw [he, drop_end (by omega), drop_get dQ (by omega : k < b.length)]; rfl
  · rw [he, drop_end (by omega), drop_end (l := b) (by omega)]; rfl)
theorem k_compareRows : SoundC Tryz.prog K_compareRows.1 K_compareRows.2 := sound_of hm ((((CtxOK.nil.and k_Or).and k_CompareFunc).and k_CompareI).and k_CompareS) (fun _ => []) (by kernel_rfl) fun (x : Rw × Rw) hl => (by
  rw [← vc_compareRows x]
  obtain ⟨h1, h2⟩ : Sz x.1.2.1 ∧ Sz x.2.2.1 := hl
  obtain ⟨⟨nm, args, u1, u2⟩, nm', args', u1', u2'⟩ := x
  dsimp only at *
  simp [-List.getD_eq_getElem?_getD, -List.mem_cons, -Bool.forall_bool, -Bool.exists_bool, and_assoc, peta, tl_inj, ex_1, ex_2, ex_3, ex_4, ex_5, ex_6, ex_7, ex_8, ex_9, ey_2, ey_3, ey_4, ey_5, ey_6, ey_7, ey_8, ey_9]
  exact ⟨h1, h2, rfl⟩)
theorem k_suits : SoundC Tryz.prog K_suits.1 K_suits.2 := sound_of hm CtxOK.nil (fun _ => []) (by kernel_rfl) fun (x : Rt × Int) hl => (by
  rw [← vc_suits x]
  obtain ⟨⟨a, b⟩, n⟩ := x
  dsimp only at *
  simp [-List.getD_eq_getElem?_getD, -List.mem_cons, -Bool.forall_bool, -Bool.exists_bool, and_assoc, peta, tl_inj, ex_1, ex_2, ex_3, ex_4, ex_5, ex_6, ex_7, ex_8, ex_9, ey_2, ey_3, ey_4, ey_5, ey_6, ey_7, ey_8, ey_9]
  exact ⟨fun h => by simp [suit, h], fun h => by simp [suit, h, Bool.beq_eq_decide_eq]⟩)
theorem k_l7Fit : SoundC Tryz.prog K_l7Fit.1 K_l7Fit.2 := sound_of hm (CtxOK.nil.and k_sRatOk) (fun _ => []) (by kernel_rfl) fun (x : Rt × Int) hl => (by
  rw [← vc_l7Fit x]
  obtain ⟨⟨a, b⟩, n⟩ := x
  dsimp only at *
  simp [-List.getD_eq_getElem?_getD, -List.mem_cons, -Bool.forall_bool, -Bool.exists_bool, and_assoc, peta, tl_inj, ex_1, ex_2, ex_3, ex_4, ex_5, ex_6, ex_7, ex_8, ex_9, ey_2, ey_3, ey_4, ey_5, ey_6, ey_7, ey_8, ey_9]
  exact ⟨fun h => ⟨fun h2 => by simp [fit, suit, h, h2], fun h2 => by simp [fit, suit, h, h2, Bool.beq_eq_decide_eq]⟩, fun h => by simp [fit, h]⟩)

theorem m_step {m : Mdl} {k : Nat} (hk : k < m.length) (he : mL none m = mL (prevR m k) (m.drop k)) :
    (rowOk (m.getD k dR) = false → mRight m = false) ∧ (beforeR (prevR m k) (m.getD k dR) = false → mRight m = false) ∧ (rowOk (m.getD k dR) = true → beforeR (prevR m k) (m.getD k dR) = true → mL none m = mL (prevR m (k + 1)) (m.drop (k + 1))) := by
  rw [drop_get dR hk] at he
  simp only [mL] at he
  refine ⟨fun h => ?_, fun h => ?_, fun h1 h2 => ?_⟩
  · unfold mRight; rw [he, h]; simp
  · unfold mRight; rw [he, h]; simp
  · rw [he, h1, h2]
    simp [prevR, -List.getD_eq_getElem?_getD]

theorem k_l7Right : SoundC Tryz.prog K_l7Right.1 K_l7Right.2 := sound_of hm ((CtxOK.nil.and k_l7Less).and k_l7Row) (fun x => A_l7Right x) (by kernel_rfl) fun (m : Mdl) hl => (by
  rw [← vc_l7Right m]
  replace hl : SmM m := hl
  simp [-List.getD_eq_getElem?_getD, -List.mem_cons, -Bool.forall_bool, -Bool.exists_bool, and_assoc, peta, tl_inj, ex_1, ex_2, ex_3, ex_4, ex_5, ex_6, ex_7, ex_8, ex_9, ey_2, ey_3, ey_4, ey_5, ey_6, ey_7, ey_8, ey_9]
  have hlen := hl.len
  refine ⟨⟨0, by simp, by simp [prevR], rfl⟩, fun k hk he => ⟨fun hlt => ?_, fun hge => ?_⟩⟩
  · obtain ⟨m1, m2⟩ := hl.mem (getD_mem dR hlt)
    obtain ⟨e1, e2, e3⟩ := m_step hlt he
    refine ⟨hlt, m1, m2, e1, fun h1 => ⟨fun h4 => ?_, fun h4 => ⟨k + 1, hlt, e3 h1 (by rw [h4]; rfl), by omega, wrap_small (by omega) (by omega)⟩⟩⟩
    rw [wrap_small (by omega) (by omega)]
    have e : ((k : Int) - 1).toNat = k - 1 := by omega
    rw [e]
    have hb : beforeR (prevR m k) (m.getD k dR) = rowLess (m.getD (k - 1) dR) (m.getD k dR) := by
      unfold prevR; rw [if_neg (by omega)]; rfl
    exact ⟨by omega, by omega, by omega, hlt, (hl.mem (getD_mem dR (by omega))).2, fun h => e2 (by rw [hb, h]), fun h => ⟨k + 1, hlt, e3 h1 (by rw [hb, h]), by omega, wrap_small (by omega) (by omega)⟩⟩
  · rw [drop_end (by omega)] at he
    unfold mRight
    rw [he]
    simp only [mL, Bool.true_and]
    congr 1
    simp only [eq_iff_iff]; omega)

theorem k_iModel : SoundC Tryz.prog K_iModel.1 K_iModel.2 := sound_of hm ((CtxOK.nil.and k_compareRows).and k_rowOk) (fun x => A_iModel x) (by kernel_rfl) fun (m : Mdl) hl => (by
  rw [← vc_iModel m]
  replace hl : SmM m := hl
  simp [-List.getD_eq_getElem?_getD, -List.mem_cons, -Bool.forall_bool, -Bool.exists_bool, and_assoc, peta, tl_inj, ex_1, ex_2, ex_3, ex_4, ex_5, ex_6, ex_7, ex_8, ex_9, ey_2, ey_3, ey_4, ey_5, ey_6, ey_7, ey_8, ey_9]
  have hlen := hl.len
  refine ⟨fun h => by unfold mRight; rw [decide_eq_false (by omega : ¬ m.length ≤ 40)]; simp, fun h40 => ⟨⟨0, by simp, by simp [prevR], fun h => (h rfl).elim, rfl⟩, fun k hk he hp => ⟨fun hlt => ?_, fun hge => ?_⟩⟩⟩
  · obtain ⟨m1, m2⟩ := hl.mem (getD_mem dR hlt)
    obtain ⟨e1, e2, e3⟩ := m_step hlt he
    refine ⟨hlt, m1, m2, e1, fun h1 => ⟨fun h4 => ?_, fun h4 => ⟨k + 1, hlt, e3 h1 (by rw [h4]; rfl), fun _ => h1, by omega, wrap_small (by omega) (by omega)⟩⟩⟩
    rw [wrap_small (by omega) (by omega)]
    have e : ((k : Int) - 1).toNat = k - 1 := by omega
    rw [e]
    have hb : beforeR (prevR m k) (m.getD k dR) = rowLess (m.getD (k - 1) dR) (m.getD k dR) := by
      unfold prevR; rw [if_neg (by omega)]; rfl
    have hc := cmpRows_neg (hp (by omega)) h1
    have hz := (hl.mem (getD_mem dR (by omega : k - 1 < m.length))).2
    refine ⟨by omega, by omega, by omega, by omega, by omega, fun h => e2 ?_, fun h => ⟨k + 1, hlt, e3 h1 ?_, fun _ => h1, by omega, wrap_small (by omega) (by omega)⟩⟩
    · rw [hb]
      cases h2 : rowLess (m.getD (k - 1) dR) (m.getD k dR) with
      | false => rfl
      | true => have := hc.2 h2; omega
    · rw [hb]; exact hc.1 h
  · rw [drop_end (by omega)] at he
    unfold mRight
    rw [he, decide_eq_true (by omega : m.length ≤ 40)]
    rfl)

theorem fit_step {a : List Rt} {b : List Int} {k : Nat} (h1 : k < a.length) (h2 : k < b.length) : fitL (a.drop k) (b.drop k) = (fit (a.getD k dQ) (b.getD k 0) && fitL (a.drop (k + 1)) (b.drop (k + 1))) := by
  rw [drop_get dQ h1, drop_get 0 h2]; rfl
theorem fit_end {a : List Rt} {b : List Int} {k : Nat} (h1 : a.length ≤ k) : fitL (a.drop k) (b.drop k) = true := by
  rw [drop_end (by omega)]; cases b.drop k <;> rfl
theorem mL_mem : ∀ {m : Mdl} {p : Option Rw}, mL p m = true → ∀ y ∈ m, rowOk y = true
  | x :: m, p, h, y, hy => by
    simp only [mL, Bool.and_eq_true] at h
    rcases List.mem_cons.1 hy with e | e
    · subst e; exact h.1.1
    · exact mL_mem h.2 y e

theorem k_sModelOk : SoundC Tryz.prog K_sModelOk.1 K_sModelOk.2 := sound_of hm ((((CtxOK.nil.and k_l7Fit).and k_l4Find).and k_l7Right).and k_sSigOk) (fun x => A_sModelOk x.1 x.2) (by kernel_rfl) fun (x : Sig × Mdl) hl => (by
  rw [← vc_sModelOk x]
  obtain ⟨h1, h2⟩ : SmG x.1 ∧ SmM x.2 := hl
  obtain ⟨s, m⟩ := x
  dsimp only at *
  simp [-List.getD_eq_getElem?_getD, -List.mem_cons, -Bool.forall_bool, -Bool.exists_bool, and_assoc, peta, tl_inj, ex_1, ex_2, ex_3, ex_4, ex_5, ex_6, ex_7, ex_8, ex_9, ey_2, ey_3, ey_4, ey_5, ey_6, ey_7, ey_8, ey_9]
  have hlen := h2.len
  have nos : sigOk s = false → modelOk s m = false := fun h => by simp [modelOk, h]
  have nom : mRight m = false → modelOk s m = false := fun h => by simp [modelOk, h]
  refine ⟨h1, nos, fun hs => ⟨h2, nom, fun hm' => ⟨⟨0, by simp, by simp [modelOk, hs, hm'], rfl⟩, fun k hk he => ⟨fun hlt => ?_, fun hge => by rw [he, drop_end (by omega)]; rfl⟩⟩⟩⟩
  rw [drop_get dR hlt, List.all_cons] at he
  have hr := h2.mem (getD_mem dR hlt)
  generalize m.getD k dR = r at *
  have no : rowFits s r = false → modelOk s m = false := fun h => by rw [he, h]; rfl
  refine ⟨hlt, h1, fun h => no (by simp [rowFits, h]), fun hf => ⟨hlt, fun h => no ?_, fun hl2 => ⟨hlt, fun h => no (by simp [rowFits, h]), fun hv => ⟨hlt, ⟨0, by simp, by omega, ?_, rfl⟩, fun j _ hj _ hj2 => ⟨fun hjl => ?_, fun hge => ?_⟩⟩⟩⟩⟩
  · simp only [rowFits]; rw [decide_eq_false (by omega)]; simp
  · simp only [rowFits, List.drop_zero, hf, hv, Bool.true_and]; rw [decide_eq_true (by omega)]; simp
  · rw [fit_step (by omega) hjl] at hj2
    exact ⟨hlt, by omega, hjl, fun h => no (by rw [hj2, h]; rfl), fun h => ⟨hlt, j + 1, by omega, by omega, by rw [hj2, h]; rfl, by omega, wrap_small (by omega) (by omega)⟩⟩
  · rw [fit_end (by omega)] at hj2
    exact ⟨k + 1, hlt, by rw [he, hj2]; rfl, by omega, wrap_small (by omega) (by omega)⟩)
theorem k_iModelOk : SoundC Tryz.prog K_iModelOk.1 K_iModelOk.2 := sound_of hm ((((CtxOK.nil.and k_suits).and k_symbol).and k_iModel).and k_iSigOk) (fun x => A_iModelOk x.1 x.2) (by kernel_rfl) fun (x : Sig × Mdl) hl => (by
  rw [← vc_iModelOk x]
  obtain ⟨h1, h2⟩ : SmG x.1 ∧ SmM x.2 := hl
  obtain ⟨s, m⟩ := x
  dsimp only at *
  simp [-List.getD_eq_getElem?_getD, -List.mem_cons, -Bool.forall_bool, -Bool.exists_bool, and_assoc, peta, tl_inj, ex_1, ex_2, ex_3, ex_4, ex_5, ex_6, ex_7, ex_8, ex_9, ey_2, ey_3, ey_4, ey_5, ey_6, ey_7, ey_8, ey_9]
  have hlen := h2.len
  have nos : sigOk s = false → modelOk s m = false := fun h => by simp [modelOk, h]
  have nom : mRight m = false → modelOk s m = false := fun h => by simp [modelOk, h]
  have hmr : mRight m = true → mL none m = true := fun h => by unfold mRight at h; exact (Bool.and_eq_true _ _ ▸ h).1
  refine ⟨h1, nos, fun hs => ⟨h2, nom, fun hm' => ⟨⟨0, by simp, by simp [modelOk, hs, hm'], hmr hm', rfl⟩, fun k hk he hm2 => ⟨fun hlt => ?_, fun hge => by rw [he, drop_end (by omega)]; rfl⟩⟩⟩⟩
  rw [drop_get dR hlt, List.all_cons] at he
  have hr := h2.mem (getD_mem dR hlt)
  obtain ⟨_, _, q1, q2⟩ := rowOk_iff.1 (mL_mem hm2 _ (getD_mem dR hlt))
  generalize m.getD k dR = r at *
  have no : rowFits s r = false → modelOk s m = false := fun h => by rw [he, h]; rfl
  refine ⟨hlt, h1, fun h => no (by simp [rowFits, h]), fun hf => ⟨fun h => no ?_, fun hl2 => ⟨fun h => no (by simp [rowFits, fit, h]), fun hv => ⟨hlt, ⟨0, by simp, by omega, ?_, rfl⟩, fun j _ hj _ hj2 => ⟨fun hjl => ?_, fun hge => ?_⟩⟩⟩⟩⟩
  · simp only [rowFits]; rw [decide_eq_false (by omega)]; simp
  · simp only [rowFits, List.drop_zero, hf, fit, q1, hv, Bool.true_and]; rw [decide_eq_true (by omega)]; simp
  · rw [fit_step hjl (by omega)] at hj2
    have hq : ratOk (r.2.1.getD j dQ) = true := List.all_eq_true.1 q2 _ (getD_mem dQ hjl)
    simp only [fit, hq, Bool.true_and] at hj2
    exact ⟨hjl, by omega, fun h => no (by rw [hj2, h]; rfl), fun h => ⟨hlt, j + 1, by omega, by omega, by rw [hj2, h]; rfl, by omega, wrap_small (by omega) (by omega)⟩⟩
  · rw [fit_end (by omega)] at hj2
    exact ⟨k + 1, hlt, by rw [he, hj2]; rfl, hm2, by omega, wrap_small (by omega) (by omega)⟩)
end Cg

/-
  What is left to show of each function's code, printed by a program: Draw. No condition.
-/
set_option maxRecDepth 100000
set_option linter.unusedVariables false
namespace Cg
open Go Go.Proofs
theorem vc_l16Open (b : List Int) : (condP (decide ((↑b.length : Int) > (2000 : Int)))
 (((0 : Int) ≤ (2000 : Int) ∧ (2000 : Int) ≤ (↑b.length : Int)) ∧ ∃ y : List Int, Rd (0 : Int) y (0 : Int) ∧ ((0 : Nat) = (0 : Nat) ∧ True) ∧ (Is (AV.sl (2000 : Nat) (1 : Nat) (cU b)) (byts y) ∧ (0 : Int) = (0 : Int) ∧ True) ∧ True)
 (∃ y : List Int, Rd (0 : Int) y (0 : Int) ∧ ((0 : Nat) = (0 : Nat) ∧ True) ∧ (Is (byts b) (byts y) ∧ (0 : Int) = (0 : Int) ∧ True) ∧ True)) = Goal Tryz.prog [] ([]) K_l16Open.1 K_l16Open.2 (b) := by kernel_rfl

theorem vc_pick (b : List Int) (p n : Int) : (condP (decide (n < (1 : Int)))
 (∃ y : Int,
 (((1 : Int) ≤ n → (0 : Int) ≤ y ∧ y < n) ∧ (n < (1 : Int) → y = (0 : Int))) ∧ ((0 : Int) = y ∧ True) ∧ (Is (byts b) (byts b) ∧ IntKind.i64.wrap (p + (1 : Int)) = p + (1 : Int) ∧ True) ∧ True)
 (condP ((↑b.length : Int) == (0 : Int))
 (∃ y : Int,
 (((1 : Int) ≤ n → (0 : Int) ≤ y ∧ y < n) ∧ (n < (1 : Int) → y = (0 : Int))) ∧ ((0 : Int) = y ∧ True) ∧ (Is (byts b) (byts b) ∧ IntKind.i64.wrap (p + (1 : Int)) = p + (1 : Int) ∧ True) ∧ True)
 (condP (decide (IntKind.i64.wrap (IntKind.i64.wrap (p + (1 : Int)) - (1 : Int)) < (↑b.length : Int)))
 (((0 : Int) ≤ IntKind.i64.wrap (IntKind.i64.wrap (p + (1 : Int)) - (1 : Int)) ∧ IntKind.i64.wrap (IntKind.i64.wrap (p + (1 : Int)) - (1 : Int)) < (↑b.length : Int)) ∧ (IntKind.i64.wrap (IntKind.i64.wrap (p + (1 : Int)) - (1 : Int))).toNat < b.length ∧ n ≠ (0 : Int) ∧ ∃ y : Int,
 (((1 : Int) ≤ n → (0 : Int) ≤ y ∧ y < n) ∧ (n < (1 : Int) → y = (0 : Int))) ∧ ((IntKind.i64.wrap (b.getD (IntKind.i64.wrap (IntKind.i64.wrap (p + (1 : Int)) - (1 : Int))).toNat (0 : Int))).tmod n = y ∧ True) ∧ (Is (byts b) (byts b) ∧ IntKind.i64.wrap (p + (1 : Int)) = p + (1 : Int) ∧ True) ∧ True)
 ((↑b.length : Int) ≠ (0 : Int) ∧ ((0 : Int) ≤ (IntKind.i64.wrap (IntKind.i64.wrap (p + (1 : Int)) - (1 : Int))).tmod (↑b.length : Int) ∧ (IntKind.i64.wrap (IntKind.i64.wrap (p + (1 : Int)) - (1 : Int))).tmod (↑b.length : Int) < (↑b.length : Int)) ∧ ((IntKind.i64.wrap (IntKind.i64.wrap (p + (1 : Int)) - (1 : Int))).tmod (↑b.length : Int)).toNat < b.length ∧ (↑b.length : Int) ≠ (0 : Int) ∧ ((0 : Int) ≤ (IntKind.i64.wrap (IntKind.i64.wrap (IntKind.i64.wrap (IntKind.i64.wrap (p + (1 : Int)) - (1 : Int)) * (7 : Int)) + (3 : Int))).tmod (↑b.length : Int) ∧ (IntKind.i64.wrap (IntKind.i64.wrap (IntKind.i64.wrap (IntKind.i64.wrap (p + (1 : Int)) - (1 : Int)) * (7 : Int)) + (3 : Int))).tmod (↑b.length : Int) <
 (↑b.length : Int)) ∧ ((IntKind.i64.wrap (IntKind.i64.wrap (IntKind.i64.wrap (IntKind.i64.wrap (p + (1 : Int)) - (1 : Int)) * (7 : Int)) + (3 : Int))).tmod (↑b.length : Int)).toNat < b.length ∧ (↑b.length : Int) ≠ (0 : Int) ∧ (64 : Int) ≠ (0 : Int) ∧ n ≠ (0 : Int) ∧ ∃ y : Int,
 (((1 : Int) ≤ n → (0 : Int) ≤ y ∧ y < n) ∧ (n < (1 : Int) → y = (0 : Int))) ∧ ((IntKind.i64.wrap
 (↑(BitVec.ofInt (64 : Nat)
 (IntKind.i64.wrap
 (IntKind.i64.wrap
 (IntKind.i64.wrap
 (IntKind.i64.wrap
 (IntKind.i64.wrap
 (b.getD ((IntKind.i64.wrap (IntKind.i64.wrap (p + (1 : Int)) - (1 : Int))).tmod (↑b.length : Int)).toNat (0 : Int)) *
 (131 : Int)) +
 IntKind.i64.wrap
 (IntKind.i64.wrap
 (b.getD
 ((IntKind.i64.wrap
 (IntKind.i64.wrap (IntKind.i64.wrap (IntKind.i64.wrap (p + (1 : Int)) - (1 : Int)) * (7 : Int)) +
 (3 : Int))).tmod
 (↑b.length : Int)).toNat
 (0 : Int)) *
 (1117 : Int))) +
 IntKind.i64.wrap (IntKind.i64.wrap (IntKind.i64.wrap (p + (1 : Int)) - (1 : Int)) * (29 : Int))) +
 IntKind.i64.wrap
 (IntKind.i64.wrap ((IntKind.i64.wrap (IntKind.i64.wrap (p + (1 : Int)) - (1 : Int))).tdiv (↑b.length : Int)) * (53 : Int)))) ^^^
 BitVec.ofInt (64 : Nat)
 (IntKind.i64.wrap
 ((IntKind.i64.wrap
 (IntKind.i64.wrap
 (IntKind.i64.wrap
 (IntKind.i64.wrap
 (IntKind.i64.wrap
 (b.getD ((IntKind.i64.wrap (IntKind.i64.wrap (p + (1 : Int)) - (1 : Int))).tmod (↑b.length : Int)).toNat (0 : Int)) *
 (131 : Int)) +
 IntKind.i64.wrap
 (IntKind.i64.wrap
 (b.getD
 ((IntKind.i64.wrap
 (IntKind.i64.wrap (IntKind.i64.wrap (IntKind.i64.wrap (p + (1 : Int)) - (1 : Int)) * (7 : Int)) +
 (3 : Int))).tmod
 (↑b.length : Int)).toNat
 (0 : Int)) *
 (1117 : Int))) +
 IntKind.i64.wrap (IntKind.i64.wrap (IntKind.i64.wrap (p + (1 : Int)) - (1 : Int)) * (29 : Int))) +
 IntKind.i64.wrap
 (IntKind.i64.wrap ((IntKind.i64.wrap (IntKind.i64.wrap (p + (1 : Int)) - (1 : Int))).tdiv (↑b.length : Int)) * (53 : Int)))).tdiv
 (64 : Int)))).toNat :
 Int)).tmod
 n =
 y ∧ True) ∧ (Is (byts b) (byts b) ∧ IntKind.i64.wrap (p + (1 : Int)) = p + (1 : Int) ∧ True) ∧ True)))) = Goal Tryz.prog [] ([]) K_pick.1 K_pick.2 ((b, p, n)) := by kernel_rfl

theorem vc_num (b : List Int) (p : Int) (l : List Int) : (∃ x : List Int × Int × Int,
 Rd (1099511627776 : Int) x.1 x.2.1 ∧ (((0 : Nat) = (0 : Nat) ∧ (↑l.length : Int) = x.2.2 ∧ True) ∧ (Is (byts b) (byts x.1) ∧ p = x.2.1 ∧ True) ∧ True) ∧ ∀ (y : Int),
 ((1 : Int) ≤ x.2.2 → (0 : Int) ≤ y ∧ y < x.2.2) ∧ (x.2.2 < (1 : Int) → y = (0 : Int)) →
 ((0 : Int) ≤ y ∧ y < (↑l.length : Int)) ∧ y.toNat < l.length ∧ ∃ y_1 : Int, y_1 ∈ l ∧ (l.getD y.toNat (0 : Int) = y_1 ∧ True) ∧ (Is (byts x.1) (byts b) ∧ x.2.1 + (1 : Int) = p + (1 : Int) ∧ True) ∧ True) = Goal Tryz.prog [K_pick] ([]) K_num.1 K_num.2 ((b, p, l)) := by kernel_rfl

end Cg

/-
  What is left to show of each function's code, printed by a program: Units. No condition.
-/
set_option maxRecDepth 100000
set_option linter.unusedVariables false
namespace Cg
open Go Go.Proofs
end Cg

/-
  Unit propagation: plain laws. No condition.
-/
set_option linter.unusedVariables false
namespace Pl
open Go Cg

/-- A mark of at most sixty variables. -/
def Mk (x : Int) : Prop := x ≠ 0 ∧ -60 ≤ x ∧ x ≤ 60
theorem Mk.wneg {x : Int} (h : Mk x) : Pl.wneg x = -x := by
  obtain ⟨h1, h2, h3⟩ := h
  unfold Pl.wneg; rw [Cg.wrap_small (by omega) (by omega)]; omega
theorem absW_of {x : Int} (h : Mk x) : absW x = if x < 0 then -x else x := by
  obtain ⟨h1, h2, h3⟩ := h
  unfold absW Pl.wneg
  rw [if_neg (by omega), if_neg (by omega)]
  split
  · rw [Cg.wrap_small (by omega) (by omega)]; omega
  · rfl
theorem take_succ_getD {α : Type} (d : α) {l : List α} {i : Nat} (h : i < l.length) : l.take (i + 1) = l.take i ++ [l.getD i d] := by
  rw [List.take_succ_eq_append_getElem h]; simp [h]
end Pl

/-
  What is left to show of each function's code, printed by a program: Cnf. No condition.
-/
set_option maxRecDepth 100000
set_option linter.unusedVariables false
namespace Cg
open Go Go.Proofs
end Cg

/-
  The codes' contracts: clause sets. No condition.
-/
set_option linter.unusedVariables false
set_option linter.unusedSimpArgs false
set_option maxRecDepth 100000
namespace Cg
open Go Go.Proofs

end Cg

/-
  The codes' contracts: unit propagation. No condition.
-/
set_option linter.unusedVariables false
set_option linter.unusedSimpArgs false
set_option maxRecDepth 100000
namespace Cg
open Go Go.Proofs

end Cg

/-
  The codes' contracts: the reader. No condition.
-/
set_option linter.unusedVariables false
set_option linter.unusedSimpArgs false
set_option maxRecDepth 100000
namespace Cg
open Go Go.Proofs

theorem Rd.mono {m m' : Int} {b : List Int} {p : Int} (h : Rd m b p) (hm : m ≤ m') : Rd m' b p := ⟨h.1, h.2.1, h.2.2.1, Int.le_trans h.2.2.2 hm⟩
theorem Rd.add {m m' : Int} {b : List Int} {p p' : Int} (h : Rd m b p) (h1 : p ≤ p') (h2 : p' ≤ m') : Rd m' b p' := ⟨h.1, h.2.1, Int.le_trans h.2.2.1 h1, h2⟩

theorem k_l16Open : SoundC Tryz.prog K_l16Open.1 K_l16Open.2 := sound_of hm CtxOK.nil (fun _ => []) (by kernel_rfl) fun (b : List Int) hb => cast (vc_l16Open b) (by
  obtain ⟨h1, h2⟩ : Sz b ∧ Byt b := hb
  simp [-List.getD_eq_getElem?_getD, and_assoc]
  refine ⟨fun h => ⟨by omega, b.take 2000, ⟨by simp; omega, fun x hx => h2 x (List.mem_of_mem_take hx), Int.le_refl 0, Int.le_refl 0⟩, (byts_take (by omega)).2 rfl⟩, fun h => ⟨by omega, h2, Int.le_refl 0, Int.le_refl 0⟩⟩)

theorem xor_nonneg {E : Int} (h0 : 0 ≤ E) (h1 : E < 281474976710656) : 0 ≤ IntKind.i64.wrap ((BitVec.ofInt 64 E ^^^ BitVec.ofInt 64 (IntKind.i64.wrap (E.tdiv 64))).toNat : Int) := by
  have d1 : 0 ≤ E.tdiv 64 := Int.tdiv_nonneg h0 (by omega)
  have d2 : E.tdiv 64 ≤ E := Int.tdiv_le_self _ h0
  rw [wrap_small (x := E.tdiv 64) (by omega) (by omega)]
  have e : ∀ x : Int, 0 ≤ x → x < 281474976710656 → (BitVec.ofInt 64 x).toNat < 2 ^ 48 := fun x h h' => by
    rw [BitVec.toNat_ofInt]
    have : x % ((2 ^ 64 : Nat) : Int) = x := Int.emod_eq_of_lt h (by omega)
    rw [this]; omega
  have h : (BitVec.ofInt 64 E ^^^ BitVec.ofInt 64 (E.tdiv 64)).toNat < 2 ^ 48 := by
    rw [BitVec.toNat_xor]
    exact Nat.xor_lt_two_pow (e E h0 h1) (e _ d1 (by omega))
  rw [wrap_small (by omega) (by omega)]
  omega

set_option maxHeartbeats 2000000 in
theorem k_pick : SoundC Tryz.prog K_pick.1 K_pick.2 := sound_of hm CtxOK.nil (fun _ => []) (by kernel_rfl) fun (b, p, n) hb => cast (vc_pick b p n) (by
  obtain ⟨h1, h2, h3, h4⟩ : Rd 1099511627776 b p := hb
  rw [wrap_small (x := p + 1) (by omega) (by omega), show p + 1 - 1 = p by omega, wrap_small (x := p) (by omega) (by omega)]
  simp only [condP_iff, decide_eq_true_eq, decide_eq_false_iff_not, beq_iff_eq, beq_eq_false_iff_ne, ne_eq]
  refine ⟨fun h => ⟨0, ⟨fun h' => absurd h' (by omega), fun _ => rfl⟩, by simp⟩, fun h => ⟨fun h' => ⟨0, ⟨fun _ => ⟨by omega, by omega⟩, fun _ => rfl⟩, by simp⟩, fun h' => ?_⟩⟩
  have hL : (0 : Int) < b.length := by
    omega
  have byte : ∀ i, i < b.length → 0 ≤ b.getD i 0 ∧ b.getD i 0 < 256 := fun i hi => h2 _ (getD_mem 0 hi)
  have tm : ∀ x : Int, 0 ≤ x → 0 ≤ x.tmod b.length ∧ x.tmod b.length < b.length := fun x hx => ⟨Int.tmod_nonneg _ hx, Int.tmod_lt_of_pos _ hL⟩
  refine ⟨fun hlt => ?_, fun hge => ?_⟩
  · obtain ⟨b1, b2⟩ := byte p.toNat (by omega)
    refine ⟨⟨by omega, hlt⟩, by omega, by omega, _, ⟨fun _ => ⟨?_, ?_⟩, fun h'' => absurd h'' (by omega)⟩, ⟨rfl, trivial⟩, by simp⟩
    · rw [wrap_small (by omega) (by omega)]; exact Int.tmod_nonneg _ b1
    · exact Int.tmod_lt_of_pos _ (by omega)
  · have e1 : IntKind.i64.wrap (p * 7) = p * 7 := wrap_small (by omega) (by omega)
    have e2 : IntKind.i64.wrap (p * 7 + 3) = p * 7 + 3 := wrap_small (by omega) (by omega)
    simp only [e1, e2]
    obtain ⟨t1, t2⟩ := tm p h3
    obtain ⟨t3, t4⟩ := tm (p * 7 + 3) (by omega)
    obtain ⟨a1, a2⟩ := byte (p.tmod b.length).toNat (by omega)
    obtain ⟨a3, a4⟩ := byte ((p * 7 + 3).tmod b.length).toNat (by omega)
    have d1 : 0 ≤ p.tdiv b.length := Int.tdiv_nonneg h3 (by omega)
    have d2 : p.tdiv b.length ≤ p := Int.tdiv_le_self _ h3
    refine ⟨by omega, ⟨t1, t2⟩, by omega, by omega, ⟨t3, t4⟩, by omega, by omega, by omega, by omega, ?_⟩
    generalize b.getD (p.tmod b.length).toNat 0 = A at a1 a2 ⊢
    generalize b.getD ((p * 7 + 3).tmod b.length).toNat 0 = B at a3 a4 ⊢
    generalize p.tdiv b.length = D at d1 d2 ⊢
    have e3 : IntKind.i64.wrap A = A := wrap_small (by omega) (by omega)
    have e4 : IntKind.i64.wrap (A * 131) = A * 131 := wrap_small (by omega) (by omega)
    have e5 : IntKind.i64.wrap B = B := wrap_small (by omega) (by omega)
    have e6 : IntKind.i64.wrap (B * 1117) = B * 1117 := wrap_small (by omega) (by omega)
    have e7 : IntKind.i64.wrap (A * 131 + B * 1117) = A * 131 + B * 1117 := wrap_small (by omega) (by omega)
    have e8 : IntKind.i64.wrap (p * 29) = p * 29 := wrap_small (by omega) (by omega)
    have e9 : IntKind.i64.wrap (A * 131 + B * 1117 + p * 29) = A * 131 + B * 1117 + p * 29 := wrap_small (by omega) (by omega)
    have e10 : IntKind.i64.wrap D = D := wrap_small (by omega) (by omega)
    have e11 : IntKind.i64.wrap (D * 53) = D * 53 := wrap_small (by omega) (by omega)
    have e12 : IntKind.i64.wrap (A * 131 + B * 1117 + p * 29 + D * 53) = A * 131 + B * 1117 + p * 29 + D * 53 := wrap_small (by omega) (by omega)
    simp only [e3, e4, e5, e6, e7, e8, e9, e10, e11, e12]
    have hE : 0 ≤ A * 131 + B * 1117 + p * 29 + D * 53 ∧ A * 131 + B * 1117 + p * 29 + D * 53 < 281474976710656 := by omega
    generalize A * 131 + B * 1117 + p * 29 + D * 53 = E at hE
    refine ⟨_, ⟨fun _ => ⟨Int.tmod_nonneg _ (xor_nonneg hE.1 hE.2), Int.tmod_lt_of_pos _ (by omega)⟩, fun h'' => absurd h'' (by omega)⟩, ⟨rfl, trivial⟩, by simp⟩)

end Cg

/-
  Drawn clause sets: plain laws. No condition.
-/
set_option linter.unusedVariables false
set_option linter.unusedSimpArgs false
namespace Pl
open Go Cg

theorem lIs_neg {x : Int} {v : List Bool} (h0 : x ≠ 0) (h1 : x ≤ v.length) (h2 : -(v.length : Int) ≤ x) : lIs (-x) v = !lIs x v := by
  have e1 : ¬ (-x = 0 ∨ -x > (v.length : Int) ∨ -x < -(v.length : Int)) := by omega
  have e2 : ¬ (x = 0 ∨ x > (v.length : Int) ∨ x < -(v.length : Int)) := by omega
  unfold lIs
  rw [if_neg e1, if_neg e2]
  by_cases h : x < 0
  · have e3 : ¬ -x < 0 := by omega
    rw [if_neg e3, if_pos h, Bool.not_not]; congr 2; omega
  · have e3 : -x < 0 := by omega
    rw [if_pos e3, if_neg h]; congr 3; omega
theorem Mk.le_abs {x n : Int} (h : Mk x) (h1 : absW x ≤ n) : x ≤ n ∧ -n ≤ x := by
  rw [absW_of h] at h1
  split at h1 <;> omega
theorem Mk.lIs {x : Int} {v : List Bool} (h : Mk x) (h1 : absW x ≤ v.length) : Pl.lIs (Pl.wneg x) v = !Pl.lIs x v := by
  obtain ⟨h2, h3⟩ := h.le_abs h1
  rw [h.wneg]
  exact lIs_neg h.1 h2 h3

end Pl

/-
  The codes' contracts: drawn clause sets. No condition.
-/
set_option linter.unusedVariables false
set_option linter.unusedSimpArgs false
set_option maxRecDepth 100000
namespace Cg
open Go Go.Proofs

theorem k_num : SoundC Tryz.prog K_num.1 K_num.2 := sound_of hm (CtxOK.nil.and k_pick) (fun _ => []) (by kernel_rfl) fun (b, p, l) hb => cast (vc_num b p l) (by
  obtain ⟨h1, h2, h3⟩ : Rd 1099511627776 b p ∧ l ≠ [] ∧ Sz l := hb
  simp [-List.getD_eq_getElem?_getD, and_assoc]
  have hl : 0 < l.length := List.length_pos_iff.2 h2
  exact ⟨b, p, h1, rfl, rfl, fun y h4 h5 => by
    obtain ⟨h6, h7⟩ := h4 (by omega)
    exact ⟨h6, h7, by omega, _, getD_mem 0 (by omega), rfl, rfl, rfl⟩⟩)

end Cg

/-
  The codes' contracts: drawn clause sets, the rest. No condition.
-/
set_option linter.unusedVariables false
set_option linter.unusedSimpArgs false
set_option maxRecDepth 100000
namespace Cg
open Go Go.Proofs


theorem Rd.to {m m' : Int} {b : List Int} {p p' : Int} (h : Rd m b p) (h1 : 0 ≤ p') (h2 : p' ≤ m') : Rd m' b p' := ⟨h.1, h.2.1, h1, h2⟩
theorem Rds.two {v w : List Int} {a b : AV} (h1 : Is a (ints v)) (h2 : Is b (ints w)) : Rds 1 eII [] 2 (rowsCell [[a], [b]]) [v, w] := ⟨rfl, fun i hi j hj => by
  match i, j, hi, hj with
  | 0, 0, _, _ => exact h1
  | 1, 0, _, _ => exact h2⟩
theorem Rds.one {v : List Int} {a : AV} (h1 : Is a (ints v)) : Rds 1 eII [] 1 (rowsCell [[a]]) [v] := ⟨rfl, fun i hi j hj => by
  match i, j, hi, hj with
  | 0, 0, _, _ => exact h1⟩

theorem Sm.len {a : Int} {l : List (List Int)} (h : Sm (a, l)) : a ≤ 61 ∧ l.length ≤ 100 ∧ ∀ x ∈ l, x.length ≤ 100 := h
end Cg

/-
  The codes' contracts: laws of drawn clause sets. No condition.
-/
set_option linter.unusedVariables false
set_option linter.unusedSimpArgs false
set_option maxRecDepth 100000
namespace Cg
open Go Go.Proofs

theorem byt_of {l : List Int} (h : ∀ x ∈ l, (Lit.int .u8 x).wf = true) : Byt l := fun x hx => by
  have := h x hx
  simp [Lit.wf, IntKind.min, IntKind.max, IntKind.signed, IntKind.bits] at this
  omega
end Cg

/-
  The codes' contracts: drawn models. No condition.
-/
set_option linter.unusedVariables false
set_option linter.unusedSimpArgs false
set_option maxRecDepth 100000
namespace Cg
open Go Go.Proofs Pl
theorem map_range_get {α : Type} {L : List α} {r : α} (d : α) {x : Nat} (hx : x ≤ L.length) : (List.range x).map (fun i => (L ++ [r]).getD i d) = L.take x := by
  refine List.ext_getElem (by simp; omega) fun i h1 h2 => ?_
  have hi : i < x := by simpa using h1
  simp only [List.getElem_map, List.getElem_range, List.getElem_take]
  rw [getD_left d (by omega)]
  simp [show i < L.length by omega]
theorem map_range'_get {α : Type} {L : List α} {r : α} (d : α) {x : Nat} (hx : x ≤ L.length) : (List.range' x (L.length - x)).map (fun i => (L ++ [r]).getD i d) = L.drop x := by
  refine List.ext_getElem (by simp) fun i h1 h2 => ?_
  have hi : i < L.length - x := by simpa using h1
  simp only [List.getElem_map, List.getElem_range', List.getElem_drop]
  rw [getD_left d (by omega)]
  simp [show x + i < L.length by omega]
/-- The places, with the last one put in at x. -/
def insI (x n : Nat) : List Nat := List.range x ++ [n] ++ List.range' x (n - x)
theorem insI_len {x n : Nat} (h : x ≤ n) : (insI x n).length = n + 1 := by unfold insI; simp; omega
theorem hput_ins {x n : Nat} (h : x ≤ n) : HPut n (insI x n) := by
  refine ⟨by rw [insI_len h]; omega, ?_, fun i hi => ?_⟩
  · unfold insI
    rw [List.nodup_append, List.nodup_append]
    refine ⟨⟨List.nodup_range, by simp, fun a ha b hb => ?_⟩, List.nodup_range', fun a ha b hb => ?_⟩
    · have := List.mem_range.1 ha
      rw [List.mem_singleton.1 hb]; omega
    · obtain ⟨k, hk, rfl⟩ := List.mem_range'.1 hb
      rcases List.mem_append.1 ha with e | e
      · have := List.mem_range.1 e; omega
      · rw [List.mem_singleton.1 e]; omega
  · unfold insI at hi
    rcases List.mem_append.1 hi with e | e
    · rcases List.mem_append.1 e with e | e
      · have := List.mem_range.1 e; omega
      · rw [List.mem_singleton.1 e]; omega
    · obtain ⟨k, hk, rfl⟩ := List.mem_range'.1 e
      omega
theorem map_insI {α : Type} {L : List α} {r : α} (d : α) {x : Nat} (hx : x ≤ L.length) : (insI x L.length).map (fun i => (L ++ [r]).getD i d) = L.take x ++ [r] ++ L.drop x := by
  unfold insI
  rw [List.map_append, List.map_append, map_range_get d hx, map_range'_get d hx]
  simp only [List.map_cons, List.map_nil, getD_last d]
theorem row_rH {r : HRw} {j : Nat} (hj : j < 4) : Is ([st r.snd.fst, hdQ r.fst r.snd.snd.fst, i64 r.snd.snd.snd.fst, i64 r.snd.snd.snd.snd].getD j .any) (eRH r j) := by
  match j, hj with
  | 0, _ => exact EncN.eRH.self r (j := 0) (by decide)
  | 1, _ => exact EncN.eRH.self r (j := 1) (by decide)
  | 2, _ => exact EncN.eRH.self r (j := 2) (by decide)
  | 3, _ => exact EncN.eRH.self r (j := 3) (by decide)
theorem k_l7Put : SoundC Tryz.prog K_l7Put.1 K_l7Put.2 := sound_of hm ((CtxOK.nil.and k_l7Rats).and k_l7Less) (fun (L, r) => A_l7Put L r) (by kernel_rfl) fun (L, r) hb => (by
  obtain ⟨h1, h2, h3⟩ : L.length ≤ 1000 ∧ (∀ y ∈ L, y.2.2.1.length ≤ 1000) ∧ r.2.2.1.length ≤ 1000 := hb
  rw [← vc_l7Put L r]
  simp [-List.getD_eq_getElem?_getD, -List.mem_cons, -Bool.forall_bool, -Bool.exists_bool, and_assoc, peta, tl_inj, ex_1, ex_2, ex_3, ex_4, ex_5, ex_6, ex_7, ex_8, ex_9, ey_2, ey_3, ey_4, ey_5, ey_6, ey_7, ey_8, ey_9]
  have same : ∃ y, HPut L.length y ∧ L.length = y.length ∧ (y = [] ∨ L = List.map (fun i => (L ++ [r]).getD i dH) y) :=
    ⟨List.range L.length, ⟨by simp, List.nodup_range, fun i hi => by have := List.mem_range.1 hi; omega⟩, by simp, .inr (by rw [map_range_get dH (Nat.le_refl _), List.take_length])⟩
  have fin : ∀ x, x ≤ L.length → x ≤ L.length ∧ x + (L.length - x) ≤ L.length ∧ (L.length - x) * 56 ≤ 70368744177664 ∧ x ≤ L.length ∧ x * 56 ≤ 70368744177664 ∧ (x + 1) * 56 ≤ 70368744177664 ∧ (x + 1 + (L.length - x)) * 56 ≤ 70368744177664 ∧
      ∃ y, HPut L.length y ∧ x + 1 + (L.length - x) = y.length ∧ IsO (AObj.arr (x + 1 + (L.length - x)) 4 (joinC (x + 1) (fun i j => joinC x (cRH L) (rowsCell [[st r.snd.fst, hdQ r.fst r.snd.snd.fst, i64 r.snd.snd.snd.fst, i64 r.snd.snd.snd.snd]]) i j) fun i j => joinC 0 (rowsCell []) (fun i j => eRH (L.getD (i + x) dH) j) i j)) (arRH (List.map (fun i => (L ++ [r]).getD i dH) y)) := fun x hx => by
    refine ⟨hx, by omega, by omega, hx, by omega, by omega, by omega, insI x L.length, hput_ins hx, by rw [insI_len hx]; omega, ?_⟩
    rw [map_insI dH hx]
    have hR := ((Rds.take (d := dH) EncN.eRH hx).join (Rds.row (v := r) (IsR_row EncN.eRH fun j hj => row_rH hj))).join ((Rds.nil (c := rowsCell [])).join (Rds.drop EncN.eRH L x))
    exact (hR.cong (n' := x + 1 + (L.length - x)) (by omega) rfl (by simp)).iso
  refine ⟨⟨0, by omega, rfl⟩, fun x hx => ⟨fun hlt => ?_, fun hge => ?_⟩⟩
  · have h4 := h2 _ (getD_mem dH hlt)
    exact ⟨hlt, by omega, fun _ => ⟨x + 1, by omega, by omega, wrap_succ hlt (by omega)⟩, fun _ => ⟨fun _ => ⟨hlt, fun _ => ⟨hlt, by omega, fun _ => same, fun _ => fin x hx⟩, fun _ => fin x hx⟩, fun _ => fin x hx⟩⟩
  · exact ⟨fun h => absurd h (by omega), fun _ => fin x hx⟩)
theorem k_l7PutX : SoundC Tryz.prog K_l7PutX.1 K_l7PutX.2 := put_own k_l7Put
end Cg

/-
  What is left to show of each function's code, printed by a program: Mlt. No condition.
-/
set_option maxRecDepth 100000
set_option linter.unusedVariables false
namespace Cg
open Go Go.Proofs
theorem vc_l1Least (x : Int × Int) : (condP (decide (x.1 < (0 : Int)))
 (∃ x_1 : Nat × Nat,
 (IntKind.i64.wrap ((0 : Int) - x.1) = (↑x_1.1 : Int) ∧ x.2 = (↑x_1.2 : Int) ∧ True) ∧ (x_1.1 ≤ (4611686018427387904 : Nat) ∧ x_1.2 ≤ (4611686018427387904 : Nat)) ∧ (↑(x_1.1.gcd x_1.2) : Int) ≠ (0 : Int) ∧ (↑(x_1.1.gcd x_1.2) : Int) ≠ (0 : Int) ∧ ∃ x_2 : Pl.Rt,
 ((IntKind.i64.wrap (x.1.tdiv (↑(x_1.1.gcd x_1.2) : Int)) = x_2.1 ∧ IntKind.i64.wrap (x.2.tdiv (↑(x_1.1.gcd x_1.2) : Int)) = x_2.2 ∧ True) ∧ True) ∧ True ∧ condP (!Pl.ratOk x_2)
 (((0 : Int) = (Pl.ratV (Pl.least x.1 x.2)).1 ∧ (0 : Int) = (Pl.ratV (Pl.least x.1 x.2)).2 ∧ True) ∧ false = (Pl.least x.1 x.2).isSome ∧ True)
 ((IntKind.i64.wrap (x.1.tdiv (↑(x_1.1.gcd x_1.2) : Int)) = (Pl.ratV (Pl.least x.1 x.2)).1 ∧ IntKind.i64.wrap (x.2.tdiv (↑(x_1.1.gcd x_1.2) : Int)) = (Pl.ratV (Pl.least x.1 x.2)).2 ∧ True) ∧ true = (Pl.least x.1 x.2).isSome ∧ True))
 (∃ x_1 : Nat × Nat,
 (x.1 = (↑x_1.1 : Int) ∧ x.2 = (↑x_1.2 : Int) ∧ True) ∧ (x_1.1 ≤ (4611686018427387904 : Nat) ∧ x_1.2 ≤ (4611686018427387904 : Nat)) ∧ (↑(x_1.1.gcd x_1.2) : Int) ≠ (0 : Int) ∧ (↑(x_1.1.gcd x_1.2) : Int) ≠ (0 : Int) ∧ ∃ x_2 : Pl.Rt,
 ((IntKind.i64.wrap (x.1.tdiv (↑(x_1.1.gcd x_1.2) : Int)) = x_2.1 ∧ IntKind.i64.wrap (x.2.tdiv (↑(x_1.1.gcd x_1.2) : Int)) = x_2.2 ∧ True) ∧ True) ∧ True ∧ condP (!Pl.ratOk x_2)
 (((0 : Int) = (Pl.ratV (Pl.least x.1 x.2)).1 ∧ (0 : Int) = (Pl.ratV (Pl.least x.1 x.2)).2 ∧ True) ∧ false = (Pl.least x.1 x.2).isSome ∧ True)
 ((IntKind.i64.wrap (x.1.tdiv (↑(x_1.1.gcd x_1.2) : Int)) = (Pl.ratV (Pl.least x.1 x.2)).1 ∧ IntKind.i64.wrap (x.2.tdiv (↑(x_1.1.gcd x_1.2) : Int)) = (Pl.ratV (Pl.least x.1 x.2)).2 ∧ True) ∧ true = (Pl.least x.1 x.2).isSome ∧ True))) = Goal Tryz.prog [K_l1Gcd, K_sRatOk] ([]) K_l1Least.1 K_l1Least.2 (x) := by kernel_rfl

theorem vc_ratOf (x : Int × Int) : (condP (x.2 == (0 : Int)) (((0 : Int) = (Pl.ratV (Pl.least x.1 x.2)).1 ∧ (0 : Int) = (Pl.ratV (Pl.least x.1 x.2)).2 ∧ True) ∧ false = (Pl.least x.1 x.2).isSome ∧ True)
 (condP (decide (x.2 < (0 : Int)))
 (∃ x_1 : Int × Int,
 (IntKind.i64.wrap ((0 : Int) - x.1) = x_1.1 ∧ IntKind.i64.wrap ((0 : Int) - x.2) = x_1.2 ∧ True) ∧ (x_1.1.natAbs ≤ (4611686018427387904 : Nat) ∧ x_1.2.natAbs ≤ (4611686018427387904 : Nat)) ∧ (↑(x_1.1.natAbs.gcd x_1.2.natAbs) : Int) ≠ (0 : Int) ∧ (↑(x_1.1.natAbs.gcd x_1.2.natAbs) : Int) ≠ (0 : Int) ∧ ∃ x_2 : Pl.Rt,
 ((IntKind.i64.wrap ((IntKind.i64.wrap ((0 : Int) - x.1)).tdiv (↑(x_1.1.natAbs.gcd x_1.2.natAbs) : Int)) = x_2.1 ∧ IntKind.i64.wrap ((IntKind.i64.wrap ((0 : Int) - x.2)).tdiv (↑(x_1.1.natAbs.gcd x_1.2.natAbs) : Int)) = x_2.2 ∧ True) ∧ True) ∧ True ∧ condP (!Pl.ratOk x_2)
 (((0 : Int) = (Pl.ratV (Pl.least x.1 x.2)).1 ∧ (0 : Int) = (Pl.ratV (Pl.least x.1 x.2)).2 ∧ True) ∧ false = (Pl.least x.1 x.2).isSome ∧ True)
 ((IntKind.i64.wrap ((IntKind.i64.wrap ((0 : Int) - x.1)).tdiv (↑(x_1.1.natAbs.gcd x_1.2.natAbs) : Int)) = (Pl.ratV (Pl.least x.1 x.2)).1 ∧ IntKind.i64.wrap ((IntKind.i64.wrap ((0 : Int) - x.2)).tdiv (↑(x_1.1.natAbs.gcd x_1.2.natAbs) : Int)) = (Pl.ratV (Pl.least x.1 x.2)).2 ∧ True) ∧ true = (Pl.least x.1 x.2).isSome ∧ True))
 (∃ x_1 : Int × Int,
 (x.1 = x_1.1 ∧ x.2 = x_1.2 ∧ True) ∧ (x_1.1.natAbs ≤ (4611686018427387904 : Nat) ∧ x_1.2.natAbs ≤ (4611686018427387904 : Nat)) ∧ (↑(x_1.1.natAbs.gcd x_1.2.natAbs) : Int) ≠ (0 : Int) ∧ (↑(x_1.1.natAbs.gcd x_1.2.natAbs) : Int) ≠ (0 : Int) ∧ ∃ x_2 : Pl.Rt,
 ((IntKind.i64.wrap (x.1.tdiv (↑(x_1.1.natAbs.gcd x_1.2.natAbs) : Int)) = x_2.1 ∧ IntKind.i64.wrap (x.2.tdiv (↑(x_1.1.natAbs.gcd x_1.2.natAbs) : Int)) = x_2.2 ∧ True) ∧ True) ∧ True ∧ condP (!Pl.ratOk x_2)
 (((0 : Int) = (Pl.ratV (Pl.least x.1 x.2)).1 ∧ (0 : Int) = (Pl.ratV (Pl.least x.1 x.2)).2 ∧ True) ∧ false = (Pl.least x.1 x.2).isSome ∧ True)
 ((IntKind.i64.wrap (x.1.tdiv (↑(x_1.1.natAbs.gcd x_1.2.natAbs) : Int)) = (Pl.ratV (Pl.least x.1 x.2)).1 ∧ IntKind.i64.wrap (x.2.tdiv (↑(x_1.1.natAbs.gcd x_1.2.natAbs) : Int)) = (Pl.ratV (Pl.least x.1 x.2)).2 ∧ True) ∧ true = (Pl.least x.1 x.2).isSome ∧ True)))) = Goal Tryz.prog [K_gcd, K_iRatOk] ([]) K_ratOf.1 K_ratOf.2 (x) := by kernel_rfl

theorem vc_sRatAdd (x : Pl.Rt × Pl.Rt) : (∃ x_1 : Pl.Rt,
 ((x.1.1 = x_1.1 ∧ x.1.2 = x_1.2 ∧ True) ∧ True) ∧ True ∧ condP (!Pl.ratOk x_1) (((0 : Int) = (Pl.ratV (Pl.ratAdd x.1 x.2)).1 ∧ (0 : Int) = (Pl.ratV (Pl.ratAdd x.1 x.2)).2 ∧ True) ∧ false = (Pl.ratAdd x.1 x.2).isSome ∧ True)
 (∃ x_2 : Pl.Rt,
 ((x.2.1 = x_2.1 ∧ x.2.2 = x_2.2 ∧ True) ∧ True) ∧ True ∧ condP (!Pl.ratOk x_2)
 (((0 : Int) = (Pl.ratV (Pl.ratAdd x.1 x.2)).1 ∧ (0 : Int) = (Pl.ratV (Pl.ratAdd x.1 x.2)).2 ∧ True) ∧ false = (Pl.ratAdd x.1 x.2).isSome ∧ True)
 (∃ x_3 : Int × Int,
 (IntKind.i64.wrap (IntKind.i64.wrap (x.1.1 * x.2.2) + IntKind.i64.wrap (x.2.1 * x.1.2)) = x_3.1 ∧ IntKind.i64.wrap (x.1.2 * x.2.2) = x_3.2 ∧ True) ∧ (x_3.1.natAbs ≤ (2000000000000000000 : Nat) ∧ (1 : Int) ≤ x_3.2 ∧ x_3.2 ≤ (1000000000000000000 : Int)) ∧ ((Pl.ratV (Pl.least x_3.1 x_3.2)).1 = (Pl.ratV (Pl.ratAdd x.1 x.2)).1 ∧ (Pl.ratV (Pl.least x_3.1 x_3.2)).2 = (Pl.ratV (Pl.ratAdd x.1 x.2)).2 ∧ True) ∧ (Pl.least x_3.1 x_3.2).isSome = (Pl.ratAdd x.1 x.2).isSome ∧ True))) = Goal Tryz.prog [K_sRatOk, K_l1Least] ([]) K_sRatAdd.1 K_sRatAdd.2 (x) := by kernel_rfl

theorem vc_iRatAdd (x : Pl.Rt × Pl.Rt) : (∃ x_1 : Pl.Rt,
 ((x.1.1 = x_1.1 ∧ x.1.2 = x_1.2 ∧ True) ∧ True) ∧ True ∧ condP (!Pl.ratOk x_1) (((0 : Int) = (Pl.ratV (Pl.ratAdd x.1 x.2)).1 ∧ (0 : Int) = (Pl.ratV (Pl.ratAdd x.1 x.2)).2 ∧ True) ∧ false = (Pl.ratAdd x.1 x.2).isSome ∧ True)
 (∃ x_2 : Pl.Rt,
 ((x.2.1 = x_2.1 ∧ x.2.2 = x_2.2 ∧ True) ∧ True) ∧ True ∧ condP (!Pl.ratOk x_2)
 (((0 : Int) = (Pl.ratV (Pl.ratAdd x.1 x.2)).1 ∧ (0 : Int) = (Pl.ratV (Pl.ratAdd x.1 x.2)).2 ∧ True) ∧ false = (Pl.ratAdd x.1 x.2).isSome ∧ True)
 (∃ x_3 : Int × Int,
 (IntKind.i64.wrap (IntKind.i64.wrap (x.1.1 * x.2.2) + IntKind.i64.wrap (x.2.1 * x.1.2)) = x_3.1 ∧ IntKind.i64.wrap (x.1.2 * x.2.2) = x_3.2 ∧ True) ∧ (x_3.1.natAbs ≤ (2000000000000000000 : Nat) ∧ (1 : Int) ≤ x_3.2 ∧ x_3.2 ≤ (1000000000000000000 : Int)) ∧ ((Pl.ratV (Pl.least x_3.1 x_3.2)).1 = (Pl.ratV (Pl.ratAdd x.1 x.2)).1 ∧ (Pl.ratV (Pl.least x_3.1 x_3.2)).2 = (Pl.ratV (Pl.ratAdd x.1 x.2)).2 ∧ True) ∧ (Pl.least x_3.1 x_3.2).isSome = (Pl.ratAdd x.1 x.2).isSome ∧ True))) = Goal Tryz.prog [K_iRatOk, K_ratOf] ([]) K_iRatAdd.1 K_iRatAdd.2 (x) := by kernel_rfl

theorem vc_sRatMul (x : Pl.Rt × Pl.Rt) : (∃ x_1 : Pl.Rt,
 ((x.1.1 = x_1.1 ∧ x.1.2 = x_1.2 ∧ True) ∧ True) ∧ True ∧ condP (!Pl.ratOk x_1) (((0 : Int) = (Pl.ratV (Pl.ratMul x.1 x.2)).1 ∧ (0 : Int) = (Pl.ratV (Pl.ratMul x.1 x.2)).2 ∧ True) ∧ false = (Pl.ratMul x.1 x.2).isSome ∧ True)
 (∃ x_2 : Pl.Rt,
 ((x.2.1 = x_2.1 ∧ x.2.2 = x_2.2 ∧ True) ∧ True) ∧ True ∧ condP (!Pl.ratOk x_2)
 (((0 : Int) = (Pl.ratV (Pl.ratMul x.1 x.2)).1 ∧ (0 : Int) = (Pl.ratV (Pl.ratMul x.1 x.2)).2 ∧ True) ∧ false = (Pl.ratMul x.1 x.2).isSome ∧ True)
 (∃ x_3 : Int × Int,
 (IntKind.i64.wrap (x.1.1 * x.2.1) = x_3.1 ∧ IntKind.i64.wrap (x.1.2 * x.2.2) = x_3.2 ∧ True) ∧ (x_3.1.natAbs ≤ (2000000000000000000 : Nat) ∧ (1 : Int) ≤ x_3.2 ∧ x_3.2 ≤ (1000000000000000000 : Int)) ∧ ((Pl.ratV (Pl.least x_3.1 x_3.2)).1 = (Pl.ratV (Pl.ratMul x.1 x.2)).1 ∧ (Pl.ratV (Pl.least x_3.1 x_3.2)).2 = (Pl.ratV (Pl.ratMul x.1 x.2)).2 ∧ True) ∧ (Pl.least x_3.1 x_3.2).isSome = (Pl.ratMul x.1 x.2).isSome ∧ True))) = Goal Tryz.prog [K_sRatOk, K_l1Least] ([]) K_sRatMul.1 K_sRatMul.2 (x) := by kernel_rfl

theorem vc_iRatMul (x : Pl.Rt × Pl.Rt) : (∃ x_1 : Pl.Rt,
 ((x.1.1 = x_1.1 ∧ x.1.2 = x_1.2 ∧ True) ∧ True) ∧ True ∧ condP (!Pl.ratOk x_1) (((0 : Int) = (Pl.ratV (Pl.ratMul x.1 x.2)).1 ∧ (0 : Int) = (Pl.ratV (Pl.ratMul x.1 x.2)).2 ∧ True) ∧ false = (Pl.ratMul x.1 x.2).isSome ∧ True)
 (∃ x_2 : Pl.Rt,
 ((x.2.1 = x_2.1 ∧ x.2.2 = x_2.2 ∧ True) ∧ True) ∧ True ∧ condP (!Pl.ratOk x_2)
 (((0 : Int) = (Pl.ratV (Pl.ratMul x.1 x.2)).1 ∧ (0 : Int) = (Pl.ratV (Pl.ratMul x.1 x.2)).2 ∧ True) ∧ false = (Pl.ratMul x.1 x.2).isSome ∧ True)
 (∃ x_3 : Int × Int,
 (IntKind.i64.wrap (x.1.1 * x.2.1) = x_3.1 ∧ IntKind.i64.wrap (x.1.2 * x.2.2) = x_3.2 ∧ True) ∧ (x_3.1.natAbs ≤ (2000000000000000000 : Nat) ∧ (1 : Int) ≤ x_3.2 ∧ x_3.2 ≤ (1000000000000000000 : Int)) ∧ ((Pl.ratV (Pl.least x_3.1 x_3.2)).1 = (Pl.ratV (Pl.ratMul x.1 x.2)).1 ∧ (Pl.ratV (Pl.least x_3.1 x_3.2)).2 = (Pl.ratV (Pl.ratMul x.1 x.2)).2 ∧ True) ∧ (Pl.least x_3.1 x_3.2).isSome = (Pl.ratMul x.1 x.2).isSome ∧ True))) = Goal Tryz.prog [K_iRatOk, K_ratOf] ([]) K_iRatMul.1 K_iRatMul.2 (x) := by kernel_rfl

theorem vc_plus (x : Pl.Rt × Int × Pl.Rt) : (∃ x_1 : Int,
 (x.2.1 = x_1 ∧ True) ∧ True ∧ ∃ x_2 : Pl.Rt × Pl.Rt,
 ((x_1 = x_2.1.1 ∧ Int.ofNat ((1 : Nat)) = x_2.1.2 ∧ True) ∧ (x.2.2.1 = x_2.2.1 ∧ x.2.2.2 = x_2.2.2 ∧ True) ∧ True) ∧ True ∧ condP (!(Pl.ratMul x_2.1 x_2.2).isSome)
 (((0 : Int) = (Pl.ratV (Pl.plusV x.1 x.2.1 x.2.2)).1 ∧ (0 : Int) = (Pl.ratV (Pl.plusV x.1 x.2.1 x.2.2)).2 ∧ True) ∧ false = (Pl.plusV x.1 x.2.1 x.2.2).isSome ∧ True)
 (∃ x_3 : Pl.Rt × Pl.Rt,
 ((x.1.1 = x_3.1.1 ∧ x.1.2 = x_3.1.2 ∧ True) ∧ ((Pl.ratV (Pl.ratMul x_2.1 x_2.2)).1 = x_3.2.1 ∧ (Pl.ratV (Pl.ratMul x_2.1 x_2.2)).2 = x_3.2.2 ∧ True) ∧ True) ∧ True ∧ ((Pl.ratV (Pl.ratAdd x_3.1 x_3.2)).1 = (Pl.ratV (Pl.plusV x.1 x.2.1 x.2.2)).1 ∧ (Pl.ratV (Pl.ratAdd x_3.1 x_3.2)).2 = (Pl.ratV (Pl.plusV x.1 x.2.1 x.2.2)).2 ∧ True) ∧ (Pl.ratAdd x_3.1 x_3.2).isSome = (Pl.plusV x.1 x.2.1 x.2.2).isSome ∧ True)) = Goal Tryz.prog [K_whole, K_iRatMul, K_iRatAdd] ([]) K_plus.1 K_plus.2 (x) := by kernel_rfl

theorem vc_below (x : Pl.Rt × Int × Bool) : (condP x.2.2
 (∃ x_1 : Int,
 (x.2.1 = x_1 ∧ True) ∧ True ∧ ∃ x_2 : Pl.Rt × Pl.Rt,
 ((x.1.1 = x_2.1.1 ∧ x.1.2 = x_2.1.2 ∧ True) ∧ (x_1 = x_2.2.1 ∧ Int.ofNat ((1 : Nat)) = x_2.2.2 ∧ True) ∧ True) ∧ True ∧ Pl.ratLess x_2.1 x_2.2 = Pl.under x.1 x.2.1 x.2.2)
 (∃ x_1 : Int,
 (x.2.1 = x_1 ∧ True) ∧ True ∧ ∃ x_2 : Pl.Rt × Pl.Rt,
 ((x_1 = x_2.1.1 ∧ Int.ofNat ((1 : Nat)) = x_2.1.2 ∧ True) ∧ (x.1.1 = x_2.2.1 ∧ x.1.2 = x_2.2.2 ∧ True) ∧ True) ∧ True ∧ (!Pl.ratLess x_2.1 x_2.2) = Pl.under x.1 x.2.1 x.2.2)) = Goal Tryz.prog [K_whole, K_iRatLess] ([]) K_below.1 K_below.2 (x) := by kernel_rfl

theorem vc_l7Sum (x : Pl.Mdl × Pl.Atm) : ((∃ x_1 : Nat × Pl.Rt,
 (x_1.1 ≤ x.2.2.2.2.1.length ∧ Pl.ratOk x_1.2 = true ∧ Pl.sumS x.1 ((0 : Int), (1 : Int)) x.2.2.2.2.1 x.2.2.2.2.2.1 =
 Pl.sumS x.1 x_1.2 (List.drop x_1.1 x.2.2.2.2.1) (List.drop x_1.1 x.2.2.2.2.2.1)) ∧ ((0 : Nat) = (0 : Nat) ∧ (0 : Nat) = (0 : Nat) ∧ (0 : Nat) = (0 : Nat) ∧ (0 : Nat) = (0 : Nat) ∧ (0 : Int) = (↑x_1.1 : Int) ∧ True) ∧ (Is (mrows x.1) (mrows x.1) ∧ True) ∧ (x.2.1 = x.2.1 ∧ x.2.2.1.1 = x.2.2.1.1 ∧ Is (terms x.2.2.1.2) (terms x.2.2.1.2) ∧ x.2.2.2.1.1 = x.2.2.2.1.1 ∧ Is (terms x.2.2.2.1.2) (terms x.2.2.2.1.2) ∧ Is (terms x.2.2.2.2.1) (terms x.2.2.2.2.1) ∧ Is (ints x.2.2.2.2.2.1) (ints x.2.2.2.2.2.1) ∧ x.2.2.2.2.2.2.1 = x.2.2.2.2.2.2.1 ∧ x.2.2.2.2.2.2.2 = x.2.2.2.2.2.2.2 ∧ True) ∧ ((0 : Int) = (0 : Int) ∧ (0 : Int) = (0 : Int) ∧ True) ∧ ((0 : Int) = x_1.2.1 ∧ (1 : Int) = x_1.2.2 ∧ True) ∧ True) ∧ ∀ (x_1 : Nat × Pl.Rt),
 x_1.1 ≤ x.2.2.2.2.1.length ∧ Pl.ratOk x_1.2 = true ∧ Pl.sumS x.1 ((0 : Int), (1 : Int)) x.2.2.2.2.1 x.2.2.2.2.2.1 =
 Pl.sumS x.1 x_1.2 (List.drop x_1.1 x.2.2.2.2.1) (List.drop x_1.1 x.2.2.2.2.2.1) →
 condP (decide ((↑x_1.1 : Int) < (↑x.2.2.2.2.1.length : Int)))
 (((0 : Int) ≤ (↑x_1.1 : Int) ∧ (↑x_1.1 : Int) < (↑x.2.2.2.2.2.1.length : Int)) ∧ x_1.1 < x.2.2.2.2.2.1.length ∧ ((0 : Int) ≤ (↑x_1.1 : Int) ∧ (↑x_1.1 : Int) < (↑x.2.2.2.2.1.length : Int)) ∧ x_1.1 < x.2.2.2.2.1.length ∧ ∃ x_2 : Pl.Mdl × Pl.TP,
 ((Is (mrows x.1) (mrows x_2.1) ∧ True) ∧ (Pl.Tree.val (x.2.2.2.2.1.getD x_1.1 Pl.dT) = x_2.2.1 ∧ Is (kidsT (x.2.2.2.2.1.getD x_1.1 Pl.dT)) (terms x_2.2.2) ∧ True) ∧ True) ∧ (SmM x_2.1 ∧ SmT (Pl.Tree.mk x_2.2.1 x_2.2.2)) ∧ ∃ x_3 : Pl.Rt × Pl.Rt,
 ((x.2.2.2.2.2.1.getD x_1.1 (0 : Int) = x_3.1.1 ∧ (1 : Int) = x_3.1.2 ∧ True) ∧ ((Pl.valT x_2.1 (Pl.Tree.mk x_2.2.1 x_2.2.2)).1 = x_3.2.1 ∧ (Pl.valT x_2.1 (Pl.Tree.mk x_2.2.1 x_2.2.2)).2 = x_3.2.2 ∧ True) ∧ True) ∧ True ∧ condP (!(Pl.ratMul x_3.1 x_3.2).isSome)
 ((x_1.2.1 = (Pl.sumS x.1 ((0 : Int), (1 : Int)) x.2.2.2.2.1 x.2.2.2.2.2.1).1.1 ∧ x_1.2.2 = (Pl.sumS x.1 ((0 : Int), (1 : Int)) x.2.2.2.2.1 x.2.2.2.2.2.1).1.2 ∧ True) ∧ false = (Pl.sumS x.1 ((0 : Int), (1 : Int)) x.2.2.2.2.1 x.2.2.2.2.2.1).2 ∧ True)
 (∃ x_4 : Pl.Rt × Pl.Rt,
 ((x_1.2.1 = x_4.1.1 ∧ x_1.2.2 = x_4.1.2 ∧ True) ∧ ((Pl.ratV (Pl.ratMul x_3.1 x_3.2)).1 = x_4.2.1 ∧ (Pl.ratV (Pl.ratMul x_3.1 x_3.2)).2 = x_4.2.2 ∧ True) ∧ True) ∧ True ∧ condP (!(Pl.ratAdd x_4.1 x_4.2).isSome)
 (((Pl.ratV (Pl.ratAdd x_4.1 x_4.2)).1 = (Pl.sumS x.1 ((0 : Int), (1 : Int)) x.2.2.2.2.1 x.2.2.2.2.2.1).1.1 ∧ (Pl.ratV (Pl.ratAdd x_4.1 x_4.2)).2 = (Pl.sumS x.1 ((0 : Int), (1 : Int)) x.2.2.2.2.1 x.2.2.2.2.2.1).1.2 ∧ True) ∧ false = (Pl.sumS x.1 ((0 : Int), (1 : Int)) x.2.2.2.2.1 x.2.2.2.2.2.1).2 ∧ True)
 (Exists fun (x' : Nat × Pl.Rt) =>
 (x'.1 ≤ x.2.2.2.2.1.length ∧ Pl.ratOk x'.2 = true ∧ Pl.sumS x.1 ((0 : Int), (1 : Int)) x.2.2.2.2.1 x.2.2.2.2.2.1 =
 Pl.sumS x.1 x'.2 (List.drop x'.1 x.2.2.2.2.1) (List.drop x'.1 x.2.2.2.2.2.1)) ∧ x.2.2.2.2.1.length - x'.1 < x.2.2.2.2.1.length - x_1.1 ∧ ((0 : Nat) = (0 : Nat) ∧ (0 : Nat) = (0 : Nat) ∧ (0 : Nat) = (0 : Nat) ∧ (0 : Nat) = (0 : Nat) ∧ IntKind.i64.wrap ((↑x_1.1 : Int) + (1 : Int)) = (↑x'.1 : Int) ∧ True) ∧ (Is (mrows x.1) (mrows x.1) ∧ True) ∧ (x.2.1 = x.2.1 ∧ x.2.2.1.1 = x.2.2.1.1 ∧ Is (terms x.2.2.1.2) (terms x.2.2.1.2) ∧ x.2.2.2.1.1 = x.2.2.2.1.1 ∧ Is (terms x.2.2.2.1.2) (terms x.2.2.2.1.2) ∧ Is (terms x.2.2.2.2.1) (terms x.2.2.2.2.1) ∧ Is (ints x.2.2.2.2.2.1) (ints x.2.2.2.2.2.1) ∧ x.2.2.2.2.2.2.1 = x.2.2.2.2.2.2.1 ∧ x.2.2.2.2.2.2.2 = x.2.2.2.2.2.2.2 ∧ True) ∧ ((0 : Int) = (0 : Int) ∧ (0 : Int) = (0 : Int) ∧ True) ∧ ((Pl.ratV (Pl.ratAdd x_4.1 x_4.2)).1 = x'.2.1 ∧ (Pl.ratV (Pl.ratAdd x_4.1 x_4.2)).2 = x'.2.2 ∧ True) ∧ True)))
 ((x_1.2.1 = (Pl.sumS x.1 ((0 : Int), (1 : Int)) x.2.2.2.2.1 x.2.2.2.2.2.1).1.1 ∧ x_1.2.2 = (Pl.sumS x.1 ((0 : Int), (1 : Int)) x.2.2.2.2.1 x.2.2.2.2.2.1).1.2 ∧ True) ∧ true = (Pl.sumS x.1 ((0 : Int), (1 : Int)) x.2.2.2.2.1 x.2.2.2.2.2.1).2 ∧ True)) = Goal Tryz.prog [K_lTm, K_sRatMul, K_sRatAdd] (A_l7Sum x.1 x.2) K_l7Sum.1 K_l7Sum.2 (x) := by kernel_rfl

theorem vc_atomV (x : Pl.Mdl × Pl.Atm) : (condP (x.2.1 == (1 : Int))
 (∃ x_1 : Pl.Mdl × Pl.TP,
 ((Is (mrows x.1) (mrows x_1.1) ∧ True) ∧ (x.2.2.1.1 = x_1.2.1 ∧ Is (terms x.2.2.1.2) (terms x_1.2.2) ∧ True) ∧ True) ∧ (Pl.mL Option.none x_1.1 = true ∧ SmM x_1.1 ∧ SmT (Pl.Tree.mk x_1.2.1 x_1.2.2)) ∧ ∃ x_2 : Pl.Mdl × Pl.TP,
 ((Is (mrows x.1) (mrows x_2.1) ∧ True) ∧ (x.2.2.2.1.1 = x_2.2.1 ∧ Is (terms x.2.2.2.1.2) (terms x_2.2.2) ∧ True) ∧ True) ∧ (Pl.mL Option.none x_2.1 = true ∧ SmM x_2.1 ∧ SmT (Pl.Tree.mk x_2.2.1 x_2.2.2)) ∧ ((Pl.valT x_1.1 (Pl.Tree.mk x_1.2.1 x_1.2.2)).1 == (Pl.valT x_2.1 (Pl.Tree.mk x_2.2.1 x_2.2.2)).1 &&
 (Pl.valT x_1.1 (Pl.Tree.mk x_1.2.1 x_1.2.2)).2 == (Pl.valT x_2.1 (Pl.Tree.mk x_2.2.1 x_2.2.2)).2) =
 (Pl.atomV x.1 x.2).1 ∧ true = (Pl.atomV x.1 x.2).2 ∧ True)
 (∃ x_1 : Int,
 ((0 : Int) = x_1 ∧ True) ∧ True ∧ (∃ x_2 : Nat × Pl.Rt,
 (¬x.2.1 = (1 : Int) ∧ x_2.1 ≤ x.2.2.2.2.1.length ∧ Pl.ratOk x_2.2 = true ∧ Pl.sumS x.1 ((0 : Int), (1 : Int)) x.2.2.2.2.1 x.2.2.2.2.2.1 =
 Pl.sumS x.1 x_2.2 (List.drop x_2.1 x.2.2.2.2.1) (List.drop x_2.1 x.2.2.2.2.2.1)) ∧ ((0 : Nat) = (0 : Nat) ∧ (0 : Nat) = (0 : Nat) ∧ (0 : Nat) = (0 : Nat) ∧ Is (terms x.2.2.2.2.1) (terms x.2.2.2.2.1) ∧ (↑x.2.2.2.2.1.length : Int) = (↑x.2.2.2.2.1.length : Int) ∧ (0 : Int) = (↑x_2.1 : Int) ∧ True) ∧ (Is (mrows x.1) (mrows x.1) ∧ True) ∧ (x.2.1 = x.2.1 ∧ x.2.2.1.1 = x.2.2.1.1 ∧ Is (terms x.2.2.1.2) (terms x.2.2.1.2) ∧ x.2.2.2.1.1 = x.2.2.2.1.1 ∧ Is (terms x.2.2.2.1.2) (terms x.2.2.2.1.2) ∧ Is (terms x.2.2.2.2.1) (terms x.2.2.2.2.1) ∧ Is (ints x.2.2.2.2.2.1) (ints x.2.2.2.2.2.1) ∧ x.2.2.2.2.2.2.1 = x.2.2.2.2.2.2.1 ∧ x.2.2.2.2.2.2.2 = x.2.2.2.2.2.2.2 ∧ True) ∧ (x_1 = x_2.2.1 ∧ Int.ofNat ((1 : Nat)) = x_2.2.2 ∧ True) ∧ True) ∧ ∀ (x_2 : Nat × Pl.Rt),
 ¬x.2.1 = (1 : Int) ∧ x_2.1 ≤ x.2.2.2.2.1.length ∧ Pl.ratOk x_2.2 = true ∧ Pl.sumS x.1 ((0 : Int), (1 : Int)) x.2.2.2.2.1 x.2.2.2.2.2.1 =
 Pl.sumS x.1 x_2.2 (List.drop x_2.1 x.2.2.2.2.1) (List.drop x_2.1 x.2.2.2.2.2.1) →
 condP (decide ((↑x_2.1 : Int) < (↑x.2.2.2.2.1.length : Int)))
 (((0 : Int) ≤ (↑x_2.1 : Int) ∧ (↑x_2.1 : Int) < (↑x.2.2.2.2.1.length : Int)) ∧ x_2.1 < x.2.2.2.2.1.length ∧ ((0 : Int) ≤ (↑x_2.1 : Int) ∧ (↑x_2.1 : Int) < (↑x.2.2.2.2.2.1.length : Int)) ∧ x_2.1 < x.2.2.2.2.2.1.length ∧ ∃ x_3 : Pl.Mdl × Pl.TP,
 ((Is (mrows x.1) (mrows x_3.1) ∧ True) ∧ (Pl.Tree.val (x.2.2.2.2.1.getD x_2.1 Pl.dT) = x_3.2.1 ∧ Is (kidsT (x.2.2.2.2.1.getD x_2.1 Pl.dT)) (terms x_3.2.2) ∧ True) ∧ True) ∧ (Pl.mL Option.none x_3.1 = true ∧ SmM x_3.1 ∧ SmT (Pl.Tree.mk x_3.2.1 x_3.2.2)) ∧ ∃ x_4 : Pl.Rt × Int × Pl.Rt,
 ((x_2.2.1 = x_4.1.1 ∧ x_2.2.2 = x_4.1.2 ∧ True) ∧ x.2.2.2.2.2.1.getD x_2.1 (0 : Int) = x_4.2.1 ∧ ((Pl.valT x_3.1 (Pl.Tree.mk x_3.2.1 x_3.2.2)).1 = x_4.2.2.1 ∧ (Pl.valT x_3.1 (Pl.Tree.mk x_3.2.1 x_3.2.2)).2 = x_4.2.2.2 ∧ True) ∧ True) ∧ True ∧ condP (!(Pl.plusV x_4.1 x_4.2.1 x_4.2.2).isSome) (false = (Pl.atomV x.1 x.2).1 ∧ false = (Pl.atomV x.1 x.2).2 ∧ True)
 (Exists fun (x' : Nat × Pl.Rt) =>
 (¬x.2.1 = (1 : Int) ∧ x'.1 ≤ x.2.2.2.2.1.length ∧ Pl.ratOk x'.2 = true ∧ Pl.sumS x.1 ((0 : Int), (1 : Int)) x.2.2.2.2.1 x.2.2.2.2.2.1 =
 Pl.sumS x.1 x'.2 (List.drop x'.1 x.2.2.2.2.1) (List.drop x'.1 x.2.2.2.2.2.1)) ∧ x.2.2.2.2.1.length - x'.1 < x.2.2.2.2.1.length - x_2.1 ∧ ((0 : Nat) = (0 : Nat) ∧ (0 : Nat) = (0 : Nat) ∧ (0 : Nat) = (0 : Nat) ∧ Is (terms x.2.2.2.2.1) (terms x.2.2.2.2.1) ∧ (↑x.2.2.2.2.1.length : Int) = (↑x.2.2.2.2.1.length : Int) ∧ IntKind.i64.wrap ((↑x_2.1 : Int) + (1 : Int)) = (↑x'.1 : Int) ∧ True) ∧ (Is (mrows x.1) (mrows x.1) ∧ True) ∧ (x.2.1 = x.2.1 ∧ x.2.2.1.1 = x.2.2.1.1 ∧ Is (terms x.2.2.1.2) (terms x.2.2.1.2) ∧ x.2.2.2.1.1 = x.2.2.2.1.1 ∧ Is (terms x.2.2.2.1.2) (terms x.2.2.2.1.2) ∧ Is (terms x.2.2.2.2.1) (terms x.2.2.2.2.1) ∧ Is (ints x.2.2.2.2.2.1) (ints x.2.2.2.2.2.1) ∧ x.2.2.2.2.2.2.1 = x.2.2.2.2.2.2.1 ∧ x.2.2.2.2.2.2.2 = x.2.2.2.2.2.2.2 ∧ True) ∧ ((Pl.ratV (Pl.plusV x_4.1 x_4.2.1 x_4.2.2)).1 = x'.2.1 ∧ (Pl.ratV (Pl.plusV x_4.1 x_4.2.1 x_4.2.2)).2 = x'.2.2 ∧ True) ∧ True))
 (∃ x_3 : Pl.Rt × Int × Bool,
 ((x_2.2.1 = x_3.1.1 ∧ x_2.2.2 = x_3.1.2 ∧ True) ∧ x.2.2.2.2.2.2.1 = x_3.2.1 ∧ x.2.2.2.2.2.2.2 = x_3.2.2 ∧ True) ∧ True ∧ Pl.under x_3.1 x_3.2.1 x_3.2.2 = (Pl.atomV x.1 x.2).1 ∧ true = (Pl.atomV x.1 x.2).2 ∧ True))) = Goal Tryz.prog [K_val, K_whole, K_plus, K_below] (A_atomV x.1 x.2) K_atomV.1 K_atomV.2 (x) := by kernel_rfl

theorem vc_sModelLit (x : Pl.Sig × Pl.Mdl × Pl.Ltr) : (∃ x_1 : Pl.Sig × Pl.Mdl,
 ((Is (syms x.1) (syms x_1.1) ∧ True) ∧ (Is (mrows x.2.1) (mrows x_1.2) ∧ True) ∧ True) ∧ (SmG x_1.1 ∧ SmM x_1.2) ∧ condP (!Pl.modelOk x_1.1 x_1.2) (false = (Pl.modelLit x.1 x.2.1 x.2.2).1 ∧ false = (Pl.modelLit x.1 x.2.1 x.2.2).2 ∧ True)
 (∃ x_2 : Pl.Sig × Pl.Atm,
 ((Is (syms x.1) (syms x_2.1) ∧ True) ∧ (x.2.2.1.1 = x_2.2.1 ∧ x.2.2.1.2.1.1 = x_2.2.2.1.1 ∧ Is (terms x.2.2.1.2.1.2) (terms x_2.2.2.1.2) ∧ x.2.2.1.2.2.1.1 = x_2.2.2.2.1.1 ∧ Is (terms x.2.2.1.2.2.1.2) (terms x_2.2.2.2.1.2) ∧ Is (terms x.2.2.1.2.2.2.1) (terms x_2.2.2.2.2.1) ∧ Is (ints x.2.2.1.2.2.2.2.1) (ints x_2.2.2.2.2.2.1) ∧ x.2.2.1.2.2.2.2.2.1 = x_2.2.2.2.2.2.2.1 ∧ x.2.2.1.2.2.2.2.2.2 = x_2.2.2.2.2.2.2.2 ∧ True) ∧ True) ∧ (SmG x_2.1 ∧ SmA x_2.2) ∧ condP (!Pl.atomOk x_2.1 x_2.2) (false = (Pl.modelLit x.1 x.2.1 x.2.2).1 ∧ false = (Pl.modelLit x.1 x.2.1 x.2.2).2 ∧ True)
 (condP (x.2.2.1.1 == (1 : Int))
 (∃ x_3 : Pl.Mdl × Pl.TP,
 ((Is (mrows x.2.1) (mrows x_3.1) ∧ True) ∧ (x.2.2.1.2.1.1 = x_3.2.1 ∧ Is (terms x.2.2.1.2.1.2) (terms x_3.2.2) ∧ True) ∧ True) ∧ (SmM x_3.1 ∧ SmT (Pl.Tree.mk x_3.2.1 x_3.2.2)) ∧ ∃ x_4 : Pl.Mdl × Pl.TP,
 ((Is (mrows x.2.1) (mrows x_4.1) ∧ True) ∧ (x.2.2.1.2.2.1.1 = x_4.2.1 ∧ Is (terms x.2.2.1.2.2.1.2) (terms x_4.2.2) ∧ True) ∧ True) ∧ (SmM x_4.1 ∧ SmT (Pl.Tree.mk x_4.2.1 x_4.2.2)) ∧ (!((Pl.valT x_3.1 (Pl.Tree.mk x_3.2.1 x_3.2.2)).1 == (Pl.valT x_4.1 (Pl.Tree.mk x_4.2.1 x_4.2.2)).1 &&
 (Pl.valT x_3.1 (Pl.Tree.mk x_3.2.1 x_3.2.2)).2 == (Pl.valT x_4.1 (Pl.Tree.mk x_4.2.1 x_4.2.2)).2) ==
 x.2.2.2) =
 (Pl.modelLit x.1 x.2.1 x.2.2).1 ∧ true = (Pl.modelLit x.1 x.2.1 x.2.2).2 ∧ True)
 (∃ x_3 : Pl.Mdl × Pl.Atm,
 ((Is (mrows x.2.1) (mrows x_3.1) ∧ True) ∧ (x.2.2.1.1 = x_3.2.1 ∧ x.2.2.1.2.1.1 = x_3.2.2.1.1 ∧ Is (terms x.2.2.1.2.1.2) (terms x_3.2.2.1.2) ∧ x.2.2.1.2.2.1.1 = x_3.2.2.2.1.1 ∧ Is (terms x.2.2.1.2.2.1.2) (terms x_3.2.2.2.1.2) ∧ Is (terms x.2.2.1.2.2.2.1) (terms x_3.2.2.2.2.1) ∧ Is (ints x.2.2.1.2.2.2.2.1) (ints x_3.2.2.2.2.2.1) ∧ x.2.2.1.2.2.2.2.2.1 = x_3.2.2.2.2.2.2.1 ∧ x.2.2.1.2.2.2.2.2.2 = x_3.2.2.2.2.2.2.2 ∧ True) ∧ True) ∧ (SmM x_3.1 ∧ SmA x_3.2 ∧ x_3.2.2.2.2.1.length = x_3.2.2.2.2.2.1.length) ∧ condP (!(Pl.sumS x_3.1 ((0 : Int), (1 : Int)) x_3.2.2.2.2.1 x_3.2.2.2.2.2.1).2)
 (false = (Pl.modelLit x.1 x.2.1 x.2.2).1 ∧ false = (Pl.modelLit x.1 x.2.1 x.2.2).2 ∧ True)
 (∃ x_4 : Pl.Rt × Pl.Rt,
 (((Pl.sumS x_3.1 ((0 : Int), (1 : Int)) x_3.2.2.2.2.1 x_3.2.2.2.2.2.1).1.1 = x_4.1.1 ∧ (Pl.sumS x_3.1 ((0 : Int), (1 : Int)) x_3.2.2.2.2.1 x_3.2.2.2.2.2.1).1.2 = x_4.1.2 ∧ True) ∧ (x.2.2.1.2.2.2.2.2.1 = x_4.2.1 ∧ (1 : Int) = x_4.2.2 ∧ True) ∧ True) ∧ True ∧ condP (Pl.ratLess x_4.1 x_4.2)
 ((!true == x.2.2.2) = (Pl.modelLit x.1 x.2.1 x.2.2).1 ∧ true = (Pl.modelLit x.1 x.2.1 x.2.2).2 ∧ True)
 (condP (!x.2.2.1.2.2.2.2.2.2)
 ((!((Pl.sumS x_3.1 ((0 : Int), (1 : Int)) x_3.2.2.2.2.1 x_3.2.2.2.2.2.1).1.1 == x.2.2.1.2.2.2.2.2.1 &&
 (Pl.sumS x_3.1 ((0 : Int), (1 : Int)) x_3.2.2.2.2.1 x_3.2.2.2.2.2.1).1.2 == (1 : Int)) ==
 x.2.2.2) =
 (Pl.modelLit x.1 x.2.1 x.2.2).1 ∧ true = (Pl.modelLit x.1 x.2.1 x.2.2).2 ∧ True)
 ((!false == x.2.2.2) = (Pl.modelLit x.1 x.2.1 x.2.2).1 ∧ true = (Pl.modelLit x.1 x.2.1 x.2.2).2 ∧ True))))))) = Goal Tryz.prog [K_sModelOk, K_sAtomOk, K_lTm, K_l7Sum, K_sRatLess] ([]) K_sModelLit.1 K_sModelLit.2 (x) := by kernel_rfl

theorem vc_iModelLit (x : Pl.Sig × Pl.Mdl × Pl.Ltr) : (∃ x_1 : Pl.Sig × Pl.Mdl,
 ((Is (syms x.1) (syms x_1.1) ∧ True) ∧ (Is (mrows x.2.1) (mrows x_1.2) ∧ True) ∧ True) ∧ (SmG x_1.1 ∧ SmM x_1.2) ∧ condP (!Pl.modelOk x_1.1 x_1.2) (false = (Pl.modelLit x.1 x.2.1 x.2.2).1 ∧ false = (Pl.modelLit x.1 x.2.1 x.2.2).2 ∧ True)
 (∃ x_2 : Pl.Sig × Pl.Atm,
 ((Is (syms x.1) (syms x_2.1) ∧ True) ∧ (x.2.2.1.1 = x_2.2.1 ∧ x.2.2.1.2.1.1 = x_2.2.2.1.1 ∧ Is (terms x.2.2.1.2.1.2) (terms x_2.2.2.1.2) ∧ x.2.2.1.2.2.1.1 = x_2.2.2.2.1.1 ∧ Is (terms x.2.2.1.2.2.1.2) (terms x_2.2.2.2.1.2) ∧ Is (terms x.2.2.1.2.2.2.1) (terms x_2.2.2.2.2.1) ∧ Is (ints x.2.2.1.2.2.2.2.1) (ints x_2.2.2.2.2.2.1) ∧ x.2.2.1.2.2.2.2.2.1 = x_2.2.2.2.2.2.2.1 ∧ x.2.2.1.2.2.2.2.2.2 = x_2.2.2.2.2.2.2.2 ∧ True) ∧ True) ∧ (SmG x_2.1 ∧ SmA x_2.2) ∧ condP (!Pl.atomOk x_2.1 x_2.2) (false = (Pl.modelLit x.1 x.2.1 x.2.2).1 ∧ false = (Pl.modelLit x.1 x.2.1 x.2.2).2 ∧ True)
 (∃ x_3 : Pl.Mdl × Pl.Atm,
 ((Is (mrows x.2.1) (mrows x_3.1) ∧ True) ∧ (x.2.2.1.1 = x_3.2.1 ∧ x.2.2.1.2.1.1 = x_3.2.2.1.1 ∧ Is (terms x.2.2.1.2.1.2) (terms x_3.2.2.1.2) ∧ x.2.2.1.2.2.1.1 = x_3.2.2.2.1.1 ∧ Is (terms x.2.2.1.2.2.1.2) (terms x_3.2.2.2.1.2) ∧ Is (terms x.2.2.1.2.2.2.1) (terms x_3.2.2.2.2.1) ∧ Is (ints x.2.2.1.2.2.2.2.1) (ints x_3.2.2.2.2.2.1) ∧ x.2.2.1.2.2.2.2.2.1 = x_3.2.2.2.2.2.2.1 ∧ x.2.2.1.2.2.2.2.2.2 = x_3.2.2.2.2.2.2.2 ∧ True) ∧ True) ∧ (Pl.mL Option.none x_3.1 = true ∧ SmM x_3.1 ∧ SmA x_3.2 ∧ (¬x_3.2.1 = (1 : Int) → x_3.2.2.2.2.1.length = x_3.2.2.2.2.2.1.length)) ∧ condP (!(Pl.atomV x_3.1 x_3.2).2) (false = (Pl.modelLit x.1 x.2.1 x.2.2).1 ∧ false = (Pl.modelLit x.1 x.2.1 x.2.2).2 ∧ True)
 ((!(Pl.atomV x_3.1 x_3.2).1 == x.2.2.2) = (Pl.modelLit x.1 x.2.1 x.2.2).1 ∧ true = (Pl.modelLit x.1 x.2.1 x.2.2).2 ∧ True)))) = Goal Tryz.prog [K_iModelOk, K_iAtomOk, K_atomV] ([]) K_iModelLit.1 K_iModelLit.2 (x) := by kernel_rfl

end Cg

/-
  What is left to show of each function's code, printed by a program: Lit. No condition.
-/
set_option maxRecDepth 100000
set_option linter.unusedVariables false
namespace Cg
open Go Go.Proofs
end Cg

/-
  What is left to show of each function's code, printed by a program: Same. No condition.
-/
set_option maxRecDepth 100000
set_option linter.unusedVariables false
namespace Cg
open Go Go.Proofs
end Cg

/-
  The codes' contracts: atoms, formulas, explanations, cases: sizes, copies, equality. No condition.
-/
set_option linter.unusedVariables false
set_option linter.unusedSimpArgs false
set_option maxRecDepth 100000
set_option maxHeartbeats 1000000
namespace Cg
open Go Go.Proofs Pl
section
variable {α : Type} {f : α → Nat}
theorem SmTrs.mem {l : List (Tree α)} (h : SmTrs f l) {t : Tree α} (ht : t ∈ l) : SmTr f t := by
  have := costTr_mem (f := f) ht
  have h1 : l.length + costTrs f l ≤ 1048576 := h
  show costTr f t ≤ 1048576
  omega
theorem SmTrs.len {l : List (Tree α)} (h : SmTrs f l) : l.length ≤ 1048576 := by
  have h1 : l.length + costTrs f l ≤ 1048576 := h
  omega
theorem SmTr.kids {v : α} {ks : List (Tree α)} (h : SmTr f (.mk v ks)) : SmTrs f ks := by
  have h1 : costTr f (.mk v ks) ≤ 1048576 := h
  rw [costTr_eq] at h1
  simp only [Tree.val, Tree.kids] at h1
  show ks.length + costTrs f ks ≤ 1048576
  omega
theorem SmTr.here {v : α} {ks : List (Tree α)} (h : SmTr f (.mk v ks)) : f v ≤ 1048576 := by
  have h1 : costTr f (.mk v ks) ≤ 1048576 := h
  rw [costTr_eq] at h1
  simp only [Tree.val, Tree.kids] at h1
  omega
end
theorem SmA.parts {x : Atm} (h : SmA x) : SmT (.mk x.2.1.1 x.2.1.2) ∧ SmT (.mk x.2.2.1.1 x.2.2.1.2) ∧ SmTs x.2.2.2.1 ∧ x.2.2.2.2.1.length ≤ 1048576 := by
  have h1 : costA x ≤ 1048576 := h
  unfold costA at h1
  refine ⟨?_, ?_, ?_, by omega⟩
  · show costT _ ≤ _; omega
  · show costT _ ≤ _; omega
  · show _ + _ ≤ _; omega

end Cg

/-
  The codes' contracts: lists of literals: sizes, copies, equality. No condition.
-/
set_option linter.unusedVariables false
set_option linter.unusedSimpArgs false
set_option maxRecDepth 100000
set_option maxHeartbeats 1000000
namespace Cg
open Go Go.Proofs Pl
theorem SmLs.mem {l : List Ltr} (h : SmLs l) {x : Ltr} (hx : x ∈ l) : SmA x.1 := by
  have h1 : l.length + sumN costL l ≤ 1048576 := h
  have h2 := sumN_mem costL hx
  have h3 : costL x = costA x.1 := rfl
  show costA x.1 ≤ 1048576
  omega
theorem SmLs.len {l : List Ltr} (h : SmLs l) : l.length ≤ 1048576 := by
  have h1 : l.length + sumN costL l ≤ 1048576 := h
  omega
end Cg

/-
  What is left to show of each function's code, printed by a program: Atm. No condition.
-/
set_option maxRecDepth 100000
set_option linter.unusedVariables false
namespace Cg
open Go Go.Proofs
theorem vc_l4Text (n : Nat) (x : Pl.TP) : ((∃ x_1 : Nat,
 x_1 ≤ x.2.length ∧ ((0 : Nat) = (0 : Nat) ∧ x.1 = Pl.spell x.1 (List.take x_1 x.2) ∧ (0 : Int) = (↑x_1 : Int) ∧ True) ∧ (x.1 = x.1 ∧ Is (terms x.2) (terms x.2) ∧ True) ∧ True) ∧ ∀ (x_1 : Nat),
 x_1 ≤ x.2.length →
 condP (decide ((↑x_1 : Int) < (↑x.2.length : Int)))
 (condP ((↑x_1 : Int) == (0 : Int))
 ((↑((Pl.spell x.1 (List.take x_1 x.2)).size + (1 : Nat)) : Int) ≤ (9223372036854775807 : Int) ∧ ((0 : Int) ≤ (↑x_1 : Int) ∧ (↑x_1 : Int) < (↑x.2.length : Int)) ∧ x_1 < x.2.length ∧ ∃ x_2 : Pl.TP,
 ((Pl.Tree.val (x.2.getD x_1 Pl.dT) = x_2.1 ∧ Is (kidsT (x.2.getD x_1 Pl.dT)) (terms x_2.2) ∧ True) ∧ True) ∧ (SmT (Pl.Tree.mk x_2.1 x_2.2) ∧ Pl.manyL x_2.2 < n) ∧ (↑((ByteArray.mk (Array.mk ((Pl.spell x.1 (List.take x_1 x.2)).data.toList ++ [(40 : UInt8)]))).size + (Pl.textT (Pl.Tree.mk x_2.1 x_2.2)).size) : Int) ≤
 (9223372036854775807 : Int) ∧ Exists fun (x' : Nat) =>
 x' ≤ x.2.length ∧ x.2.length - x' < x.2.length - x_1 ∧ ((0 : Nat) = (0 : Nat) ∧ ByteArray.mk
 (Array.mk
 ((ByteArray.mk (Array.mk ((Pl.spell x.1 (List.take x_1 x.2)).data.toList ++ [(40 : UInt8)]))).data.toList ++
 (Pl.textT (Pl.Tree.mk x_2.1 x_2.2)).data.toList)) =
 Pl.spell x.1 (List.take x' x.2) ∧ IntKind.i64.wrap ((↑x_1 : Int) + (1 : Int)) = (↑x' : Int) ∧ True) ∧ (x.1 = x.1 ∧ Is (terms x.2) (terms x.2) ∧ True) ∧ True)
 ((↑((Pl.spell x.1 (List.take x_1 x.2)).size + (1 : Nat)) : Int) ≤ (9223372036854775807 : Int) ∧ ((0 : Int) ≤ (↑x_1 : Int) ∧ (↑x_1 : Int) < (↑x.2.length : Int)) ∧ x_1 < x.2.length ∧ ∃ x_2 : Pl.TP,
 ((Pl.Tree.val (x.2.getD x_1 Pl.dT) = x_2.1 ∧ Is (kidsT (x.2.getD x_1 Pl.dT)) (terms x_2.2) ∧ True) ∧ True) ∧ (SmT (Pl.Tree.mk x_2.1 x_2.2) ∧ Pl.manyL x_2.2 < n) ∧ (↑((ByteArray.mk (Array.mk ((Pl.spell x.1 (List.take x_1 x.2)).data.toList ++ [(44 : UInt8)]))).size + (Pl.textT (Pl.Tree.mk x_2.1 x_2.2)).size) : Int) ≤
 (9223372036854775807 : Int) ∧ Exists fun (x' : Nat) =>
 x' ≤ x.2.length ∧ x.2.length - x' < x.2.length - x_1 ∧ ((0 : Nat) = (0 : Nat) ∧ ByteArray.mk
 (Array.mk
 ((ByteArray.mk (Array.mk ((Pl.spell x.1 (List.take x_1 x.2)).data.toList ++ [(44 : UInt8)]))).data.toList ++
 (Pl.textT (Pl.Tree.mk x_2.1 x_2.2)).data.toList)) =
 Pl.spell x.1 (List.take x' x.2) ∧ IntKind.i64.wrap ((↑x_1 : Int) + (1 : Int)) = (↑x' : Int) ∧ True) ∧ (x.1 = x.1 ∧ Is (terms x.2) (terms x.2) ∧ True) ∧ True))
 (condP (decide ((↑x.2.length : Int) > (0 : Int)))
 ((↑((Pl.spell x.1 (List.take x_1 x.2)).size + (1 : Nat)) : Int) ≤ (9223372036854775807 : Int) ∧ ByteArray.mk (Array.mk ((Pl.spell x.1 (List.take x_1 x.2)).data.toList ++ [(41 : UInt8)])) = Pl.textT (Pl.Tree.mk x.1 x.2))
 (Pl.spell x.1 (List.take x_1 x.2) = Pl.textT (Pl.Tree.mk x.1 x.2)))) = Goal Tryz.prog [(K_l4Text n)] (A_l4Text x.1 x.2) (K_l4Text (n + 1)).1 (K_l4Text (n + 1)).2 (x) := by kernel_rfl

theorem vc_termText (n : Nat) (x : Pl.TP) : (condP ((↑x.2.length : Int) == (0 : Int)) (x.1 = Pl.textT (Pl.Tree.mk x.1 x.2))
 ((∃ x_1 : Nat,
 (x_1 ≤ x.2.length ∧ x.2 ≠ []) ∧ ((0 : Nat) = (0 : Nat) ∧ ((0 : Nat) = (0 : Nat) ∧ (0 : Nat) = (0 : Nat) ∧ (Pl.textL (List.take x_1 x.2)).length = (0 : Nat)) ∧ Is (terms x.2) (terms x.2) ∧ (↑x.2.length : Int) = (↑x.2.length : Int) ∧ (0 : Int) = (↑x_1 : Int) ∧ True) ∧ (x.1 = x.1 ∧ Is (terms x.2) (terms x.2) ∧ True) ∧ (Pl.textL (List.take x_1 x.2)).length = (0 : Nat) ∧ True) ∧ ∀ (x_1 : Nat),
 x_1 ≤ x.2.length ∧ x.2 ≠ [] →
 condP (decide ((↑x_1 : Int) < (↑x.2.length : Int)))
 (((0 : Int) ≤ (↑x_1 : Int) ∧ (↑x_1 : Int) < (↑x.2.length : Int)) ∧ x_1 < x.2.length ∧ ∃ x_2 : Pl.TP,
 ((Pl.Tree.val (x.2.getD x_1 Pl.dT) = x_2.1 ∧ Is (kidsT (x.2.getD x_1 Pl.dT)) (terms x_2.2) ∧ True) ∧ True) ∧ (SmT (Pl.Tree.mk x_2.1 x_2.2) ∧ Pl.manyL x_2.2 < n) ∧ (0 : Nat) + (Pl.textL (List.take x_1 x.2)).length ≤ (Pl.textL (List.take x_1 x.2)).length ∧ ((Pl.textL (List.take x_1 x.2)).length + (1 : Nat)) * (16 : Nat) ≤ (70368744177664 : Nat) ∧ Exists fun (x' : Nat) =>
 (x' ≤ x.2.length ∧ x.2 ≠ []) ∧ x.2.length - x' < x.2.length - x_1 ∧ ((0 : Nat) = (0 : Nat) ∧ ((0 : Nat) = (0 : Nat) ∧ (Pl.textL (List.take x_1 x.2)).length + (1 : Nat) = (Pl.textL (List.take x' x.2)).length) ∧ Is (terms x.2) (terms x.2) ∧ (↑x.2.length : Int) = (↑x.2.length : Int) ∧ IntKind.i64.wrap ((↑x_1 : Int) + (1 : Int)) = (↑x' : Int) ∧ True) ∧ (x.1 = x.1 ∧ Is (terms x.2) (terms x.2) ∧ True) ∧ IsO
 (AObj.arr ((Pl.textL (List.take x_1 x.2)).length + (1 : Nat)) (1 : Nat)
 (joinC (Pl.textL (List.take x_1 x.2)).length (cS (Pl.textL (List.take x_1 x.2))) (rowsCell [[st (Pl.textT (Pl.Tree.mk x_2.1 x_2.2))]])))
 (arS (Pl.textL (List.take x' x.2))) ∧ True)
 ((↑(x.1.size + (1 : Nat)) : Int) ≤ (9223372036854775807 : Int) ∧ (0 : Nat) + (Pl.textL (List.take x_1 x.2)).length ≤ (Pl.textL (List.take x_1 x.2)).length ∧ ∃ x_2 : List ByteArray × ByteArray,
 (Is (strs (Pl.textL (List.take x_1 x.2))) (strs x_2.1) ∧ ByteArray.mk #[(44 : UInt8)] = x_2.2 ∧ True) ∧ (x_2.1.length ≤ (140737488355328 : Nat) ∧ (Pl.joinS x_2.1 x_2.2).size ≤ (140737488355328 : Nat)) ∧ (↑((ByteArray.mk (Array.mk (x.1.data.toList ++ [(40 : UInt8)]))).size + (Pl.joinS x_2.1 x_2.2).size) : Int) ≤ (9223372036854775807 : Int) ∧ (↑((ByteArray.mk (Array.mk ((ByteArray.mk (Array.mk (x.1.data.toList ++ [(40 : UInt8)]))).data.toList ++ (Pl.joinS x_2.1 x_2.2).data.toList))).size + (1 : Nat)) : Int) ≤
 (9223372036854775807 : Int) ∧ ByteArray.mk
 (Array.mk
 ((ByteArray.mk (Array.mk ((ByteArray.mk (Array.mk (x.1.data.toList ++ [(40 : UInt8)]))).data.toList ++ (Pl.joinS x_2.1 x_2.2).data.toList))).data.toList ++
 [(41 : UInt8)])) =
 Pl.textT (Pl.Tree.mk x.1 x.2)))) = Goal Tryz.prog [(K_termText n), K_Join] (A_termText x.1 x.2) (K_termText (n + 1)).1 (K_termText (n + 1)).2 (x) := by kernel_rfl

theorem vc_l6None (x : Pl.TP) : (condP (x.1.toList == (ByteArray.mk #[]).toList) (((↑x.2.length : Int) == (0 : Int)) = Pl.noneT x) (false = Pl.noneT x)) = Goal Tryz.prog [] ([]) K_l6None.1 K_l6None.2 (x) := by kernel_rfl

theorem vc_isNone (x : Pl.TP) : (condP (x.1.toList == (ByteArray.mk #[]).toList) (((↑x.2.length : Int) == (0 : Int)) = Pl.noneT x) (false = Pl.noneT x)) = Goal Tryz.prog [] ([]) K_isNone.1 K_isNone.2 (x) := by kernel_rfl

theorem vc_l6Sum (x : Pl.Atm) : (∃ x_1 : Pl.TP,
 ((x.2.1.1 = x_1.1 ∧ Is (terms x.2.1.2) (terms x_1.2) ∧ True) ∧ True) ∧ True ∧ condP (!Pl.noneT x_1) (false = Pl.sumRight x)
 (∃ x_2 : Pl.TP,
 ((x.2.2.1.1 = x_2.1 ∧ Is (terms x.2.2.1.2) (terms x_2.2) ∧ True) ∧ True) ∧ True ∧ condP (!Pl.noneT x_2) (false = Pl.sumRight x)
 (condP ((↑x.2.2.2.1.length : Int) != (↑x.2.2.2.2.1.length : Int)) (false = Pl.sumRight x)
 (condP (decide ((↑x.2.2.2.1.length : Int) < (1 : Int))) (false = Pl.sumRight x)
 (condP (decide ((↑x.2.2.2.1.length : Int) > (4 : Int))) (false = Pl.sumRight x)
 (condP (decide (x.2.2.2.2.2.1 < (-1000 : Int))) (false = Pl.sumRight x)
 (condP (decide (x.2.2.2.2.2.1 > (1000 : Int))) (false = Pl.sumRight x)
 ((∃ x_3 : Nat,
 (Pl.sumHead x = true ∧ x_3 ≤ x.2.2.2.1.length ∧ Pl.numOk Option.none x.2.2.2.1 x.2.2.2.2.1 =
 Pl.numOk (Pl.prevN x.2.2.2.1 x_3) (List.drop x_3 x.2.2.2.1) (List.drop x_3 x.2.2.2.2.1)) ∧ ((0 : Nat) = (0 : Nat) ∧ (0 : Int) = (↑x_3 : Int) ∧ True) ∧ (x.1 = x.1 ∧ x.2.1.1 = x.2.1.1 ∧ Is (terms x.2.1.2) (terms x.2.1.2) ∧ x.2.2.1.1 = x.2.2.1.1 ∧ Is (terms x.2.2.1.2) (terms x.2.2.1.2) ∧ Is (terms x.2.2.2.1) (terms x.2.2.2.1) ∧ Is (ints x.2.2.2.2.1) (ints x.2.2.2.2.1) ∧ x.2.2.2.2.2.1 = x.2.2.2.2.2.1 ∧ x.2.2.2.2.2.2 = x.2.2.2.2.2.2 ∧ True) ∧ True) ∧ ∀ (x_3 : Nat),
 Pl.sumHead x = true ∧ x_3 ≤ x.2.2.2.1.length ∧ Pl.numOk Option.none x.2.2.2.1 x.2.2.2.2.1 =
 Pl.numOk (Pl.prevN x.2.2.2.1 x_3) (List.drop x_3 x.2.2.2.1) (List.drop x_3 x.2.2.2.2.1) →
 condP (decide ((↑x_3 : Int) < (↑x.2.2.2.1.length : Int)))
 (((0 : Int) ≤ (↑x_3 : Int) ∧ (↑x_3 : Int) < (↑x.2.2.2.2.1.length : Int)) ∧ x_3 < x.2.2.2.2.1.length ∧ ((0 : Int) ≤ (↑x_3 : Int) ∧ (↑x_3 : Int) < (↑x.2.2.2.1.length : Int)) ∧ x_3 < x.2.2.2.1.length ∧ ∃ x_4 : Pl.TP,
 ((Pl.Tree.val (x.2.2.2.1.getD x_3 Pl.dT) = x_4.1 ∧ Is (kidsT (x.2.2.2.1.getD x_3 Pl.dT)) (terms x_4.2) ∧ True) ∧ True) ∧ SmT (Pl.Tree.mk x_4.1 x_4.2) ∧ condP (!Pl.right (Pl.Tree.mk x_4.1 x_4.2)) (false = Pl.sumRight x)
 (condP (x.2.2.2.2.1.getD x_3 (0 : Int) == (0 : Int)) (false = Pl.sumRight x)
 (condP (decide (x.2.2.2.2.1.getD x_3 (0 : Int) < (-50 : Int))) (false = Pl.sumRight x)
 (condP (decide (x.2.2.2.2.1.getD x_3 (0 : Int) > (50 : Int))) (false = Pl.sumRight x)
 (condP (decide ((↑x_3 : Int) > (0 : Int)))
 (((0 : Int) ≤ IntKind.i64.wrap ((↑x_3 : Int) - (1 : Int)) ∧ IntKind.i64.wrap ((↑x_3 : Int) - (1 : Int)) < (↑x.2.2.2.1.length : Int)) ∧ (IntKind.i64.wrap ((↑x_3 : Int) - (1 : Int))).toNat < x.2.2.2.1.length ∧ ∃ x_5 : Pl.TP,
 ((Pl.Tree.val (x.2.2.2.1.getD (IntKind.i64.wrap ((↑x_3 : Int) - (1 : Int))).toNat Pl.dT) = x_5.1 ∧ Is (kidsT (x.2.2.2.1.getD (IntKind.i64.wrap ((↑x_3 : Int) - (1 : Int))).toNat Pl.dT)) (terms x_5.2) ∧ True) ∧ True) ∧ SmT (Pl.Tree.mk x_5.1 x_5.2) ∧ ((0 : Int) ≤ (↑x_3 : Int) ∧ (↑x_3 : Int) < (↑x.2.2.2.1.length : Int)) ∧ x_3 < x.2.2.2.1.length ∧ ∃ x_6 : Pl.TP,
 ((Pl.Tree.val (x.2.2.2.1.getD x_3 Pl.dT) = x_6.1 ∧ Is (kidsT (x.2.2.2.1.getD x_3 Pl.dT)) (terms x_6.2) ∧ True) ∧ True) ∧ SmT (Pl.Tree.mk x_6.1 x_6.2) ∧ condP (!Op.bytesLess (Pl.textT (Pl.Tree.mk x_5.1 x_5.2)).toList (Pl.textT (Pl.Tree.mk x_6.1 x_6.2)).toList)
 (false = Pl.sumRight x)
 (Exists fun (x' : Nat) =>
 (Pl.sumHead x = true ∧ x' ≤ x.2.2.2.1.length ∧ Pl.numOk Option.none x.2.2.2.1 x.2.2.2.2.1 =
 Pl.numOk (Pl.prevN x.2.2.2.1 x') (List.drop x' x.2.2.2.1)
 (List.drop x' x.2.2.2.2.1)) ∧ x.2.2.2.1.length - x' < x.2.2.2.1.length - x_3 ∧ ((0 : Nat) = (0 : Nat) ∧ IntKind.i64.wrap ((↑x_3 : Int) + (1 : Int)) = (↑x' : Int) ∧ True) ∧ (x.1 = x.1 ∧ x.2.1.1 = x.2.1.1 ∧ Is (terms x.2.1.2) (terms x.2.1.2) ∧ x.2.2.1.1 = x.2.2.1.1 ∧ Is (terms x.2.2.1.2) (terms x.2.2.1.2) ∧ Is (terms x.2.2.2.1) (terms x.2.2.2.1) ∧ Is (ints x.2.2.2.2.1) (ints x.2.2.2.2.1) ∧ x.2.2.2.2.2.1 = x.2.2.2.2.2.1 ∧ x.2.2.2.2.2.2 = x.2.2.2.2.2.2 ∧ True) ∧ True))
 (Exists fun (x' : Nat) =>
 (Pl.sumHead x = true ∧ x' ≤ x.2.2.2.1.length ∧ Pl.numOk Option.none x.2.2.2.1 x.2.2.2.2.1 =
 Pl.numOk (Pl.prevN x.2.2.2.1 x') (List.drop x' x.2.2.2.1) (List.drop x' x.2.2.2.2.1)) ∧ x.2.2.2.1.length - x' < x.2.2.2.1.length - x_3 ∧ ((0 : Nat) = (0 : Nat) ∧ IntKind.i64.wrap ((↑x_3 : Int) + (1 : Int)) = (↑x' : Int) ∧ True) ∧ (x.1 = x.1 ∧ x.2.1.1 = x.2.1.1 ∧ Is (terms x.2.1.2) (terms x.2.1.2) ∧ x.2.2.1.1 = x.2.2.1.1 ∧ Is (terms x.2.2.1.2) (terms x.2.2.1.2) ∧ Is (terms x.2.2.2.1) (terms x.2.2.2.1) ∧ Is (ints x.2.2.2.2.1) (ints x.2.2.2.2.1) ∧ x.2.2.2.2.2.1 = x.2.2.2.2.2.1 ∧ x.2.2.2.2.2.2 = x.2.2.2.2.2.2 ∧ True) ∧ True))))))
 (true = Pl.sumRight x))))))))) = Goal Tryz.prog [K_l6None, K_l4Right, K_lText] (A_l6Sum x) K_l6Sum.1 K_l6Sum.2 (x) := by kernel_rfl

theorem vc_l6Right (x : Pl.Atm) : (condP (x.1 == (2 : Int))
 (∃ x_1 : Pl.Atm,
 ((x.1 = x_1.1 ∧ x.2.1.1 = x_1.2.1.1 ∧ Is (terms x.2.1.2) (terms x_1.2.1.2) ∧ x.2.2.1.1 = x_1.2.2.1.1 ∧ Is (terms x.2.2.1.2) (terms x_1.2.2.1.2) ∧ Is (terms x.2.2.2.1) (terms x_1.2.2.2.1) ∧ Is (ints x.2.2.2.2.1) (ints x_1.2.2.2.2.1) ∧ x.2.2.2.2.2.1 = x_1.2.2.2.2.2.1 ∧ x.2.2.2.2.2.2 = x_1.2.2.2.2.2.2 ∧ True) ∧ True) ∧ SmA x_1 ∧ Pl.sumRight x_1 = Pl.atomRight x)
 (condP (x.1 == (1 : Int))
 (∃ x_1 : Pl.TP,
 ((x.2.1.1 = x_1.1 ∧ Is (terms x.2.1.2) (terms x_1.2) ∧ True) ∧ True) ∧ SmT (Pl.Tree.mk x_1.1 x_1.2) ∧ condP (Pl.right (Pl.Tree.mk x_1.1 x_1.2))
 (∃ x_2 : Pl.TP,
 ((x.2.2.1.1 = x_2.1 ∧ Is (terms x.2.2.1.2) (terms x_2.2) ∧ True) ∧ True) ∧ SmT (Pl.Tree.mk x_2.1 x_2.2) ∧ condP (Pl.right (Pl.Tree.mk x_2.1 x_2.2))
 (condP ((↑x.2.2.2.1.length : Int) == (0 : Int))
 (condP ((↑x.2.2.2.2.1.length : Int) == (0 : Int))
 (condP (x.2.2.2.2.2.1 == (0 : Int)) ((!x.2.2.2.2.2.2) = Pl.atomRight x) (false = Pl.atomRight x)) (false = Pl.atomRight x))
 (false = Pl.atomRight x))
 (false = Pl.atomRight x))
 (false = Pl.atomRight x))
 (false = Pl.atomRight x))) = Goal Tryz.prog [K_l6Sum, K_l4Right] ([]) K_l6Right.1 K_l6Right.2 (x) := by kernel_rfl

theorem vc_Atomok (x : Pl.Atm) : (condP (x.1 == (1 : Int))
 (∃ x_1 : Pl.TP,
 ((x.2.1.1 = x_1.1 ∧ Is (terms x.2.1.2) (terms x_1.2) ∧ True) ∧ True) ∧ SmT (Pl.Tree.mk x_1.1 x_1.2) ∧ condP (Pl.right (Pl.Tree.mk x_1.1 x_1.2))
 (∃ x_2 : Pl.TP,
 ((x.2.2.1.1 = x_2.1 ∧ Is (terms x.2.2.1.2) (terms x_2.2) ∧ True) ∧ True) ∧ SmT (Pl.Tree.mk x_2.1 x_2.2) ∧ condP (Pl.right (Pl.Tree.mk x_2.1 x_2.2))
 (condP ((↑x.2.2.2.1.length : Int) == (0 : Int))
 (condP ((↑x.2.2.2.2.1.length : Int) == (0 : Int))
 (condP (x.2.2.2.2.2.1 == (0 : Int)) ((!x.2.2.2.2.2.2) = Pl.atomRight x) (false = Pl.atomRight x)) (false = Pl.atomRight x))
 (false = Pl.atomRight x))
 (false = Pl.atomRight x))
 (false = Pl.atomRight x))
 (condP (x.1 == (2 : Int))
 (∃ x_1 : Pl.TP,
 ((x.2.1.1 = x_1.1 ∧ Is (terms x.2.1.2) (terms x_1.2) ∧ True) ∧ True) ∧ True ∧ condP (!Pl.noneT x_1) (false = Pl.atomRight x)
 (∃ x_2 : Pl.TP,
 ((x.2.2.1.1 = x_2.1 ∧ Is (terms x.2.2.1.2) (terms x_2.2) ∧ True) ∧ True) ∧ True ∧ condP (!Pl.noneT x_2) (false = Pl.atomRight x)
 (∃ x_3 : Int × Int × Int,
 ((↑x.2.2.2.1.length : Int) = x_3.1 ∧ (1 : Int) = x_3.2.1 ∧ (4 : Int) = x_3.2.2 ∧ True) ∧ True ∧ condP (!Pl.withinI x_3.1 x_3.2.1 x_3.2.2) (false = Pl.atomRight x)
 (condP ((↑x.2.2.2.2.1.length : Int) != (↑x.2.2.2.1.length : Int)) (false = Pl.atomRight x)
 (∃ x_4 : Int × Int × Int,
 (x.2.2.2.2.2.1 = x_4.1 ∧ (-1000 : Int) = x_4.2.1 ∧ (1000 : Int) = x_4.2.2 ∧ True) ∧ True ∧ condP (!Pl.withinI x_4.1 x_4.2.1 x_4.2.2) (false = Pl.atomRight x)
 ((∃ x_5 : Nat,
 (x.1 = (2 : Int) ∧ Pl.sumHead x = true ∧ x_5 ≤ x.2.2.2.1.length ∧ Pl.numOk Option.none x.2.2.2.1 x.2.2.2.2.1 =
 Pl.numOk (Pl.prevN x.2.2.2.1 x_5) (List.drop x_5 x.2.2.2.1) (List.drop x_5 x.2.2.2.2.1)) ∧ ((0 : Nat) = (0 : Nat) ∧ Is (terms x.2.2.2.1) (terms x.2.2.2.1) ∧ (↑x.2.2.2.1.length : Int) = (↑x.2.2.2.1.length : Int) ∧ (0 : Int) = (↑x_5 : Int) ∧ True) ∧ (x.1 = x.1 ∧ x.2.1.1 = x.2.1.1 ∧ Is (terms x.2.1.2) (terms x.2.1.2) ∧ x.2.2.1.1 = x.2.2.1.1 ∧ Is (terms x.2.2.1.2) (terms x.2.2.1.2) ∧ Is (terms x.2.2.2.1) (terms x.2.2.2.1) ∧ Is (ints x.2.2.2.2.1) (ints x.2.2.2.2.1) ∧ x.2.2.2.2.2.1 = x.2.2.2.2.2.1 ∧ x.2.2.2.2.2.2 = x.2.2.2.2.2.2 ∧ True) ∧ True) ∧ ∀ (x_5 : Nat),
 x.1 = (2 : Int) ∧ Pl.sumHead x = true ∧ x_5 ≤ x.2.2.2.1.length ∧ Pl.numOk Option.none x.2.2.2.1 x.2.2.2.2.1 =
 Pl.numOk (Pl.prevN x.2.2.2.1 x_5) (List.drop x_5 x.2.2.2.1) (List.drop x_5 x.2.2.2.2.1) →
 condP (decide ((↑x_5 : Int) < (↑x.2.2.2.1.length : Int)))
 (((0 : Int) ≤ (↑x_5 : Int) ∧ (↑x_5 : Int) < (↑x.2.2.2.1.length : Int)) ∧ x_5 < x.2.2.2.1.length ∧ ∃ x_6 : Pl.TP,
 ((Pl.Tree.val (x.2.2.2.1.getD x_5 Pl.dT) = x_6.1 ∧ Is (kidsT (x.2.2.2.1.getD x_5 Pl.dT)) (terms x_6.2) ∧ True) ∧ True) ∧ SmT (Pl.Tree.mk x_6.1 x_6.2) ∧ condP (!Pl.right (Pl.Tree.mk x_6.1 x_6.2)) (false = Pl.atomRight x)
 (((0 : Int) ≤ (↑x_5 : Int) ∧ (↑x_5 : Int) < (↑x.2.2.2.2.1.length : Int)) ∧ x_5 < x.2.2.2.2.1.length ∧ ∃ x_7 : Int × Int × Int,
 (x.2.2.2.2.1.getD x_5 (0 : Int) = x_7.1 ∧ (-50 : Int) = x_7.2.1 ∧ (50 : Int) = x_7.2.2 ∧ True) ∧ True ∧ condP (!Pl.withinI x_7.1 x_7.2.1 x_7.2.2) (false = Pl.atomRight x)
 (((0 : Int) ≤ (↑x_5 : Int) ∧ (↑x_5 : Int) < (↑x.2.2.2.2.1.length : Int)) ∧ x_5 < x.2.2.2.2.1.length ∧ condP (x.2.2.2.2.1.getD x_5 (0 : Int) == (0 : Int)) (false = Pl.atomRight x)
 (condP (decide ((↑x_5 : Int) > (0 : Int)))
 (((0 : Int) ≤ IntKind.i64.wrap ((↑x_5 : Int) - (1 : Int)) ∧ IntKind.i64.wrap ((↑x_5 : Int) - (1 : Int)) < (↑x.2.2.2.1.length : Int)) ∧ (IntKind.i64.wrap ((↑x_5 : Int) - (1 : Int))).toNat < x.2.2.2.1.length ∧ ∃ x_8 : Pl.TP,
 ((Pl.Tree.val (x.2.2.2.1.getD (IntKind.i64.wrap ((↑x_5 : Int) - (1 : Int))).toNat Pl.dT) = x_8.1 ∧ Is (kidsT (x.2.2.2.1.getD (IntKind.i64.wrap ((↑x_5 : Int) - (1 : Int))).toNat Pl.dT))
 (terms x_8.2) ∧ True) ∧ True) ∧ SmT (Pl.Tree.mk x_8.1 x_8.2) ∧ ∃ x_9 : Pl.TP,
 ((Pl.Tree.val (x.2.2.2.1.getD x_5 Pl.dT) = x_9.1 ∧ Is (kidsT (x.2.2.2.1.getD x_5 Pl.dT)) (terms x_9.2) ∧ True) ∧ True) ∧ SmT (Pl.Tree.mk x_9.1 x_9.2) ∧ condP
 (!Op.bytesLess (Pl.textT (Pl.Tree.mk x_8.1 x_8.2)).toList
 (Pl.textT (Pl.Tree.mk x_9.1 x_9.2)).toList)
 (false = Pl.atomRight x)
 (Exists fun (x' : Nat) =>
 (x.1 = (2 : Int) ∧ Pl.sumHead x = true ∧ x' ≤ x.2.2.2.1.length ∧ Pl.numOk Option.none x.2.2.2.1 x.2.2.2.2.1 =
 Pl.numOk (Pl.prevN x.2.2.2.1 x') (List.drop x' x.2.2.2.1)
 (List.drop x' x.2.2.2.2.1)) ∧ x.2.2.2.1.length - x' < x.2.2.2.1.length - x_5 ∧ ((0 : Nat) = (0 : Nat) ∧ Is (terms x.2.2.2.1) (terms x.2.2.2.1) ∧ (↑x.2.2.2.1.length : Int) = (↑x.2.2.2.1.length : Int) ∧ IntKind.i64.wrap ((↑x_5 : Int) + (1 : Int)) = (↑x' : Int) ∧ True) ∧ (x.1 = x.1 ∧ x.2.1.1 = x.2.1.1 ∧ Is (terms x.2.1.2) (terms x.2.1.2) ∧ x.2.2.1.1 = x.2.2.1.1 ∧ Is (terms x.2.2.1.2) (terms x.2.2.1.2) ∧ Is (terms x.2.2.2.1) (terms x.2.2.2.1) ∧ Is (ints x.2.2.2.2.1) (ints x.2.2.2.2.1) ∧ x.2.2.2.2.2.1 = x.2.2.2.2.2.1 ∧ x.2.2.2.2.2.2 = x.2.2.2.2.2.2 ∧ True) ∧ True))
 (Exists fun (x' : Nat) =>
 (x.1 = (2 : Int) ∧ Pl.sumHead x = true ∧ x' ≤ x.2.2.2.1.length ∧ Pl.numOk Option.none x.2.2.2.1 x.2.2.2.2.1 =
 Pl.numOk (Pl.prevN x.2.2.2.1 x') (List.drop x' x.2.2.2.1)
 (List.drop x' x.2.2.2.2.1)) ∧ x.2.2.2.1.length - x' < x.2.2.2.1.length - x_5 ∧ ((0 : Nat) = (0 : Nat) ∧ Is (terms x.2.2.2.1) (terms x.2.2.2.1) ∧ (↑x.2.2.2.1.length : Int) = (↑x.2.2.2.1.length : Int) ∧ IntKind.i64.wrap ((↑x_5 : Int) + (1 : Int)) = (↑x' : Int) ∧ True) ∧ (x.1 = x.1 ∧ x.2.1.1 = x.2.1.1 ∧ Is (terms x.2.1.2) (terms x.2.1.2) ∧ x.2.2.1.1 = x.2.2.1.1 ∧ Is (terms x.2.2.1.2) (terms x.2.2.1.2) ∧ Is (terms x.2.2.2.1) (terms x.2.2.2.1) ∧ Is (ints x.2.2.2.2.1) (ints x.2.2.2.2.1) ∧ x.2.2.2.2.2.1 = x.2.2.2.2.2.1 ∧ x.2.2.2.2.2.2 = x.2.2.2.2.2.2 ∧ True) ∧ True)))))
 (true = Pl.atomRight x)))))))
 (false = Pl.atomRight x))) = Goal Tryz.prog [K_isTerm, K_isNone, K_within, K_tText] (A_Atomok x) K_Atomok.1 K_Atomok.2 (x) := by kernel_rfl

theorem vc_sAtomOk (x : Pl.Sig × Pl.Atm) : (∃ x_1 : Pl.Sig,
 ((Is (syms x.1) (syms x_1) ∧ True) ∧ True) ∧ SmG x_1 ∧ condP (!Pl.sigOk x_1) (false = Pl.atomOk x.1 x.2)
 (∃ x_2 : Pl.Atm,
 ((x.2.1 = x_2.1 ∧ x.2.2.1.1 = x_2.2.1.1 ∧ Is (terms x.2.2.1.2) (terms x_2.2.1.2) ∧ x.2.2.2.1.1 = x_2.2.2.1.1 ∧ Is (terms x.2.2.2.1.2) (terms x_2.2.2.1.2) ∧ Is (terms x.2.2.2.2.1) (terms x_2.2.2.2.1) ∧ Is (ints x.2.2.2.2.2.1) (ints x_2.2.2.2.2.1) ∧ x.2.2.2.2.2.2.1 = x_2.2.2.2.2.2.1 ∧ x.2.2.2.2.2.2.2 = x_2.2.2.2.2.2.2 ∧ True) ∧ True) ∧ SmA x_2 ∧ condP (!Pl.atomRight x_2) (false = Pl.atomOk x.1 x.2)
 (condP (x.2.1 == (1 : Int))
 (∃ x_3 : Pl.Sig × Pl.TP,
 ((Is (syms x.1) (syms x_3.1) ∧ True) ∧ (x.2.2.1.1 = x_3.2.1 ∧ Is (terms x.2.2.1.2) (terms x_3.2.2) ∧ True) ∧ True) ∧ (Pl.sigOk x_3.1 = true ∧ SmG x_3.1 ∧ SmT (Pl.Tree.mk x_3.2.1 x_3.2.2)) ∧ condP (decide ((Pl.sortT x_3.1 (Pl.Tree.mk x_3.2.1 x_3.2.2)).getD (-1 : Int) ≥ (0 : Int)))
 (∃ x_4 : Pl.Sig × Pl.TP,
 ((Is (syms x.1) (syms x_4.1) ∧ True) ∧ (x.2.2.2.1.1 = x_4.2.1 ∧ Is (terms x.2.2.2.1.2) (terms x_4.2.2) ∧ True) ∧ True) ∧ (Pl.sigOk x_4.1 = true ∧ SmG x_4.1 ∧ SmT (Pl.Tree.mk x_4.2.1 x_4.2.2)) ∧ ((Pl.sortT x_3.1 (Pl.Tree.mk x_3.2.1 x_3.2.2)).getD (-1 : Int) == (Pl.sortT x_4.1 (Pl.Tree.mk x_4.2.1 x_4.2.2)).getD (-1 : Int)) =
 Pl.atomOk x.1 x.2)
 (false = Pl.atomOk x.1 x.2))
 ((∃ x_3 : Nat,
 (Pl.sigOk x.1 = true ∧ Pl.atomRight x.2 = true ∧ x.2.1 ≠ (1 : Int) ∧ x_3 ≤ x.2.2.2.2.1.length ∧ x.2.2.2.2.1.all (Pl.isNum x.1) = (List.drop x_3 x.2.2.2.2.1).all (Pl.isNum x.1)) ∧ ((0 : Nat) = (0 : Nat) ∧ (0 : Nat) = (0 : Nat) ∧ (0 : Int) = (↑x_3 : Int) ∧ True) ∧ (Is (syms x.1) (syms x.1) ∧ True) ∧ (x.2.1 = x.2.1 ∧ x.2.2.1.1 = x.2.2.1.1 ∧ Is (terms x.2.2.1.2) (terms x.2.2.1.2) ∧ x.2.2.2.1.1 = x.2.2.2.1.1 ∧ Is (terms x.2.2.2.1.2) (terms x.2.2.2.1.2) ∧ Is (terms x.2.2.2.2.1) (terms x.2.2.2.2.1) ∧ Is (ints x.2.2.2.2.2.1) (ints x.2.2.2.2.2.1) ∧ x.2.2.2.2.2.2.1 = x.2.2.2.2.2.2.1 ∧ x.2.2.2.2.2.2.2 = x.2.2.2.2.2.2.2 ∧ True) ∧ True) ∧ ∀ (x_3 : Nat),
 Pl.sigOk x.1 = true ∧ Pl.atomRight x.2 = true ∧ x.2.1 ≠ (1 : Int) ∧ x_3 ≤ x.2.2.2.2.1.length ∧ x.2.2.2.2.1.all (Pl.isNum x.1) = (List.drop x_3 x.2.2.2.2.1).all (Pl.isNum x.1) →
 condP (decide ((↑x_3 : Int) < (↑x.2.2.2.2.1.length : Int)))
 (((0 : Int) ≤ (↑x_3 : Int) ∧ (↑x_3 : Int) < (↑x.2.2.2.2.1.length : Int)) ∧ x_3 < x.2.2.2.2.1.length ∧ ∃ x_4 : Pl.Sig × Pl.TP,
 ((Is (syms x.1) (syms x_4.1) ∧ True) ∧ (Pl.Tree.val (x.2.2.2.2.1.getD x_3 Pl.dT) = x_4.2.1 ∧ Is (kidsT (x.2.2.2.2.1.getD x_3 Pl.dT)) (terms x_4.2.2) ∧ True) ∧ True) ∧ (Pl.sigOk x_4.1 = true ∧ SmG x_4.1 ∧ SmT (Pl.Tree.mk x_4.2.1 x_4.2.2)) ∧ condP ((Pl.sortT x_4.1 (Pl.Tree.mk x_4.2.1 x_4.2.2)).getD (-1 : Int) != (1 : Int)) (false = Pl.atomOk x.1 x.2)
 (Exists fun (x' : Nat) =>
 (Pl.sigOk x.1 = true ∧ Pl.atomRight x.2 = true ∧ x.2.1 ≠ (1 : Int) ∧ x' ≤ x.2.2.2.2.1.length ∧ x.2.2.2.2.1.all (Pl.isNum x.1) = (List.drop x' x.2.2.2.2.1).all (Pl.isNum x.1)) ∧ x.2.2.2.2.1.length - x' < x.2.2.2.2.1.length - x_3 ∧ ((0 : Nat) = (0 : Nat) ∧ (0 : Nat) = (0 : Nat) ∧ IntKind.i64.wrap ((↑x_3 : Int) + (1 : Int)) = (↑x' : Int) ∧ True) ∧ (Is (syms x.1) (syms x.1) ∧ True) ∧ (x.2.1 = x.2.1 ∧ x.2.2.1.1 = x.2.2.1.1 ∧ Is (terms x.2.2.1.2) (terms x.2.2.1.2) ∧ x.2.2.2.1.1 = x.2.2.2.1.1 ∧ Is (terms x.2.2.2.1.2) (terms x.2.2.2.1.2) ∧ Is (terms x.2.2.2.2.1) (terms x.2.2.2.2.1) ∧ Is (ints x.2.2.2.2.2.1) (ints x.2.2.2.2.2.1) ∧ x.2.2.2.2.2.2.1 = x.2.2.2.2.2.2.1 ∧ x.2.2.2.2.2.2.2 = x.2.2.2.2.2.2.2 ∧ True) ∧ True))
 (true = Pl.atomOk x.1 x.2))))) = Goal Tryz.prog [K_sSigOk, K_l6Right, K_lOf] (A_sAtomOk x.1 x.2) K_sAtomOk.1 K_sAtomOk.2 (x) := by kernel_rfl

theorem vc_isNumber (x : Pl.Sig × Pl.TP) : (∃ x_1 : Pl.Sig × Pl.TP,
 ((Is (syms x.1) (syms x_1.1) ∧ True) ∧ (x.2.1 = x_1.2.1 ∧ Is (terms x.2.2) (terms x_1.2.2) ∧ True) ∧ True) ∧ (SmG x_1.1 ∧ SmT (Pl.Tree.mk x_1.2.1 x_1.2.2)) ∧ condP (Pl.termSort x_1.1 (Pl.Tree.mk x_1.2.1 x_1.2.2)).2
 (((Pl.termSort x_1.1 (Pl.Tree.mk x_1.2.1 x_1.2.2)).1 == (1 : Int)) = Pl.isNum x.1 (Pl.Tree.mk x.2.1 x.2.2)) (false = Pl.isNum x.1 (Pl.Tree.mk x.2.1 x.2.2))) = Goal Tryz.prog [K_iTermSort] ([]) K_isNumber.1 K_isNumber.2 (x) := by kernel_rfl

theorem vc_AtomOk1 (x : Pl.TP × Pl.Sig) : ((0 : Nat) < (1 : Nat) ∧ ∃ x_1 : Pl.Sig × Pl.TP,
 ((Is (syms x.2) (syms x_1.1) ∧ True) ∧ (x.1.1 = x_1.2.1 ∧ Is (terms x.1.2) (terms x_1.2.2) ∧ True) ∧ True) ∧ (SmG x_1.1 ∧ SmT (Pl.Tree.mk x_1.2.1 x_1.2.2)) ∧ (!Pl.isNum x_1.1 (Pl.Tree.mk x_1.2.1 x_1.2.2)) = !Pl.isNum x.2 (Pl.Tree.mk x.1.1 x.1.2)) = Goal Tryz.prog [K_isNumber] ([]) K_AtomOk1.1 K_AtomOk1.2 (x) := by kernel_rfl

theorem vc_IndexTerm (x : List Pl.Tm × Pl.Sig) : ((∃ x_1 : Nat,
 (x_1 ≤ x.1.length ∧ Pl.idx (fun (y : Pl.Tm) => !Pl.isNum x.2 y) x.1 =
 if Pl.idx (fun (y : Pl.Tm) => !Pl.isNum x.2 y) (List.drop x_1 x.1) < (0 : Int) then (-1 : Int) else Pl.idx (fun (y : Pl.Tm) => !Pl.isNum x.2 y) (List.drop x_1 x.1) + (↑x_1 : Int)) ∧ (Is (terms x.1) (terms x.1) ∧ (Is (refs [syms x.2]) (refs [syms x.2]) ∧ True) ∧ (↑x.1.length : Int) = (↑x.1.length : Int) ∧ (0 : Int) = (↑x_1 : Int) ∧ True) ∧ True) ∧ ∀ (x_1 : Nat),
 (x_1 ≤ x.1.length ∧ Pl.idx (fun (y : Pl.Tm) => !Pl.isNum x.2 y) x.1 =
 if Pl.idx (fun (y : Pl.Tm) => !Pl.isNum x.2 y) (List.drop x_1 x.1) < (0 : Int) then (-1 : Int) else Pl.idx (fun (y : Pl.Tm) => !Pl.isNum x.2 y) (List.drop x_1 x.1) + (↑x_1 : Int)) →
 condP (decide ((↑x_1 : Int) < (↑x.1.length : Int)))
 (((0 : Int) ≤ (↑x_1 : Int) ∧ (↑x_1 : Int) < (↑x.1.length : Int)) ∧ x_1 < x.1.length ∧ ∃ x_2 : Pl.TP × Pl.Sig,
 ((Pl.Tree.val (x.1.getD x_1 Pl.dT) = x_2.1.1 ∧ Is (kidsT (x.1.getD x_1 Pl.dT)) (terms x_2.1.2) ∧ True) ∧ Is (refs [syms x.2]) (refs [syms x_2.2]) ∧ True) ∧ (SmG x_2.2 ∧ SmT (Pl.Tree.mk x_2.1.1 x_2.1.2)) ∧ condP (!Pl.isNum x_2.2 (Pl.Tree.mk x_2.1.1 x_2.1.2)) ((↑x_1 : Int) = Pl.idx (fun (y : Pl.Tm) => !Pl.isNum x.2 y) x.1)
 (Exists fun (x' : Nat) =>
 (x' ≤ x.1.length ∧ Pl.idx (fun (y : Pl.Tm) => !Pl.isNum x.2 y) x.1 =
 if Pl.idx (fun (y : Pl.Tm) => !Pl.isNum x.2 y) (List.drop x' x.1) < (0 : Int) then (-1 : Int)
 else Pl.idx (fun (y : Pl.Tm) => !Pl.isNum x.2 y) (List.drop x' x.1) + (↑x' : Int)) ∧ x.1.length - x' < x.1.length - x_1 ∧ (Is (terms x.1) (terms x.1) ∧ (Is (refs [syms x.2]) (refs [syms x.2]) ∧ True) ∧ (↑x.1.length : Int) = (↑x.1.length : Int) ∧ IntKind.i64.wrap ((↑x_1 : Int) + (1 : Int)) = (↑x' : Int) ∧ True) ∧ True))
 ((-1 : Int) = Pl.idx (fun (y : Pl.Tm) => !Pl.isNum x.2 y) x.1)) = Goal Tryz.prog [K_AtomOk1] (A_IndexTerm x.1 x.2) K_IndexTerm.1 K_IndexTerm.2 (x) := by kernel_rfl

theorem vc_ContainsTerm (x : List Pl.Tm × Pl.Sig) : (∃ x_1 : List Pl.Tm × Pl.Sig,
 (Is (terms x.1) (terms x_1.1) ∧ (Is (refs [syms x.2]) (refs [syms x_1.2]) ∧ True) ∧ True) ∧ (SmTs x_1.1 ∧ SmG x_1.2) ∧ decide (Pl.idx (fun (y : Pl.Tm) => !Pl.isNum x_1.2 y) x_1.1 ≥ (0 : Int)) = x.1.any fun (y : Pl.Tm) => !Pl.isNum x.2 y) = Goal Tryz.prog [K_IndexTerm] ([]) K_ContainsTerm.1 K_ContainsTerm.2 (x) := by kernel_rfl

theorem vc_Eqsorted (x : Pl.TP × Pl.TP × Pl.Sig) : (∃ x_1 : Pl.Sig × Pl.TP,
 ((Is (syms x.2.2) (syms x_1.1) ∧ True) ∧ (x.1.1 = x_1.2.1 ∧ Is (terms x.1.2) (terms x_1.2.2) ∧ True) ∧ True) ∧ (SmG x_1.1 ∧ SmT (Pl.Tree.mk x_1.2.1 x_1.2.2)) ∧ ∃ x_2 : Pl.Sig × Pl.TP,
 ((Is (syms x.2.2) (syms x_2.1) ∧ True) ∧ (x.2.1.1 = x_2.2.1 ∧ Is (terms x.2.1.2) (terms x_2.2.2) ∧ True) ∧ True) ∧ (SmG x_2.1 ∧ SmT (Pl.Tree.mk x_2.2.1 x_2.2.2)) ∧ condP (Pl.termSort x_1.1 (Pl.Tree.mk x_1.2.1 x_1.2.2)).2
 (condP (Pl.termSort x_2.1 (Pl.Tree.mk x_2.2.1 x_2.2.2)).2
 (((Pl.termSort x_1.1 (Pl.Tree.mk x_1.2.1 x_1.2.2)).1 == (Pl.termSort x_2.1 (Pl.Tree.mk x_2.2.1 x_2.2.2)).1) =
 Pl.eqSorted x.2.2 (Pl.Tree.mk x.1.1 x.1.2) (Pl.Tree.mk x.2.1.1 x.2.1.2))
 (false = Pl.eqSorted x.2.2 (Pl.Tree.mk x.1.1 x.1.2) (Pl.Tree.mk x.2.1.1 x.2.1.2)))
 (false = Pl.eqSorted x.2.2 (Pl.Tree.mk x.1.1 x.1.2) (Pl.Tree.mk x.2.1.1 x.2.1.2))) = Goal Tryz.prog [K_iTermSort] ([]) K_Eqsorted.1 K_Eqsorted.2 (x) := by kernel_rfl

theorem vc_iAtomOk (x : Pl.Sig × Pl.Atm) : (∃ x_1 : Pl.Sig,
 ((Is (syms x.1) (syms x_1) ∧ True) ∧ True) ∧ SmG x_1 ∧ condP (!Pl.sigOk x_1) (false = Pl.atomOk x.1 x.2)
 (∃ x_2 : Pl.Atm,
 ((x.2.1 = x_2.1 ∧ x.2.2.1.1 = x_2.2.1.1 ∧ Is (terms x.2.2.1.2) (terms x_2.2.1.2) ∧ x.2.2.2.1.1 = x_2.2.2.1.1 ∧ Is (terms x.2.2.2.1.2) (terms x_2.2.2.1.2) ∧ Is (terms x.2.2.2.2.1) (terms x_2.2.2.2.1) ∧ Is (ints x.2.2.2.2.2.1) (ints x_2.2.2.2.2.1) ∧ x.2.2.2.2.2.2.1 = x_2.2.2.2.2.2.1 ∧ x.2.2.2.2.2.2.2 = x_2.2.2.2.2.2.2 ∧ True) ∧ True) ∧ SmA x_2 ∧ condP (!Pl.atomRight x_2) (false = Pl.atomOk x.1 x.2)
 (condP (x.2.1 == (1 : Int))
 (∃ x_3 : Pl.TP × Pl.TP × Pl.Sig,
 ((x.2.2.1.1 = x_3.1.1 ∧ Is (terms x.2.2.1.2) (terms x_3.1.2) ∧ x.2.2.2.1.1 = x_3.2.1.1 ∧ Is (terms x.2.2.2.1.2) (terms x_3.2.1.2) ∧ True) ∧ (Is (syms x.1) (syms x_3.2.2) ∧ True) ∧ True) ∧ (SmT (Pl.Tree.mk x_3.1.1 x_3.1.2) ∧ SmT (Pl.Tree.mk x_3.2.1.1 x_3.2.1.2) ∧ SmG x_3.2.2) ∧ Pl.eqSorted x_3.2.2 (Pl.Tree.mk x_3.1.1 x_3.1.2) (Pl.Tree.mk x_3.2.1.1 x_3.2.1.2) = Pl.atomOk x.1 x.2)
 (∃ x_3 : List Pl.Tm × Pl.Sig,
 (Is (terms x.2.2.2.2.1) (terms x_3.1) ∧ (Is (refs [syms x.1]) (refs [syms x_3.2]) ∧ True) ∧ True) ∧ (SmTs x_3.1 ∧ SmG x_3.2) ∧ (!x_3.1.any fun (y : Pl.Tm) => !Pl.isNum x_3.2 y) = Pl.atomOk x.1 x.2)))) = Goal Tryz.prog [K_iSigOk, K_Atomok, K_Eqsorted, K_ContainsTerm] ([]) K_iAtomOk.1 K_iAtomOk.2 (x) := by kernel_rfl

end Cg

/-
  What is left to show of each function's code, printed by a program: Mtm. No condition.
-/
set_option maxRecDepth 100000
set_option linter.unusedVariables false
namespace Cg
open Go Go.Proofs
theorem vc_whole (x : Int) : (x = x ∧ (1 : Int) = Int.ofNat ((1 : Nat)) ∧ True) = Goal Tryz.prog [] ([]) K_whole.1 K_whole.2 (x) := by kernel_rfl

theorem vc_l7Look (x : Pl.Mdl × ByteArray × List Pl.Rt) : ((∃ x_1 : Nat,
 (x_1 ≤ List.length x.1 ∧ Pl.look x.1 x.2.1 x.2.2 = Pl.look (List.drop x_1 x.1) x.2.1 x.2.2) ∧ (x.2.1 = x.2.1 ∧ Is (rats x.2.2) (rats x.2.2) ∧ (0 : Nat) = (0 : Nat) ∧ (0 : Nat) = (0 : Nat) ∧ (0 : Int) = (↑x_1 : Int) ∧ True) ∧ (Is (mrows x.1) (mrows x.1) ∧ True) ∧ ((0 : Int) = (0 : Int) ∧ (0 : Int) = (0 : Int) ∧ True) ∧ True) ∧ ∀ (x_1 : Nat),
 x_1 ≤ List.length x.1 ∧ Pl.look x.1 x.2.1 x.2.2 = Pl.look (List.drop x_1 x.1) x.2.1 x.2.2 →
 condP (decide ((↑x_1 : Int) < (↑(List.length x.1) : Int)))
 (((0 : Int) ≤ (↑x_1 : Int) ∧ (↑x_1 : Int) < (↑(List.length x.1) : Int)) ∧ x_1 < List.length x.1 ∧ condP ((List.getD x.1 x_1 Pl.dR).1.toList == x.2.1.toList)
 (((0 : Int) ≤ (↑x_1 : Int) ∧ (↑x_1 : Int) < (↑(List.length x.1) : Int)) ∧ x_1 < List.length x.1 ∧ ∃ x_2 : List Pl.Rt × List Pl.Rt,
 (Is (rats (List.getD x.1 x_1 Pl.dR).2.1) (rats x_2.1) ∧ Is (rats x.2.2) (rats x_2.2) ∧ True) ∧ Sz x_2.1 ∧ condP (decide (x_2.1 = x_2.2))
 (((0 : Int) ≤ (↑x_1 : Int) ∧ (↑x_1 : Int) < (↑(List.length x.1) : Int)) ∧ x_1 < List.length x.1 ∧ (List.getD x.1 x_1 Pl.dR).2.2.1 = (Pl.look x.1 x.2.1 x.2.2).1 ∧ (List.getD x.1 x_1 Pl.dR).2.2.2 = (Pl.look x.1 x.2.1 x.2.2).2 ∧ True)
 (Exists fun (x' : Nat) =>
 (x' ≤ List.length x.1 ∧ Pl.look x.1 x.2.1 x.2.2 = Pl.look (List.drop x' x.1) x.2.1 x.2.2) ∧ List.length x.1 - x' < List.length x.1 - x_1 ∧ (x.2.1 = x.2.1 ∧ Is (rats x.2.2) (rats x.2.2) ∧ (0 : Nat) = (0 : Nat) ∧ (0 : Nat) = (0 : Nat) ∧ IntKind.i64.wrap ((↑x_1 : Int) + (1 : Int)) = (↑x' : Int) ∧ True) ∧ (Is (mrows x.1) (mrows x.1) ∧ True) ∧ ((0 : Int) = (0 : Int) ∧ (0 : Int) = (0 : Int) ∧ True) ∧ True))
 (Exists fun (x' : Nat) =>
 (x' ≤ List.length x.1 ∧ Pl.look x.1 x.2.1 x.2.2 = Pl.look (List.drop x' x.1) x.2.1 x.2.2) ∧ List.length x.1 - x' < List.length x.1 - x_1 ∧ (x.2.1 = x.2.1 ∧ Is (rats x.2.2) (rats x.2.2) ∧ (0 : Nat) = (0 : Nat) ∧ (0 : Nat) = (0 : Nat) ∧ IntKind.i64.wrap ((↑x_1 : Int) + (1 : Int)) = (↑x' : Int) ∧ True) ∧ (Is (mrows x.1) (mrows x.1) ∧ True) ∧ ((0 : Int) = (0 : Int) ∧ (0 : Int) = (0 : Int) ∧ True) ∧ True))
 ((0 : Int) = (Pl.look x.1 x.2.1 x.2.2).1 ∧ (1 : Int) = (Pl.look x.1 x.2.1 x.2.2).2 ∧ True)) = Goal Tryz.prog [K_l7Rats] (A_l7Look x.1 x.2.1 x.2.2) K_l7Look.1 K_l7Look.2 (x) := by kernel_rfl

theorem vc_l7Term (n : Nat) (x : Pl.Mdl × Pl.TP) : ((∃ x_1 : Nat,
 x_1 ≤ x.2.2.length ∧ ((0 : Nat) = (0 : Nat) ∧ (0 : Nat) = (0 : Nat) ∧ (0 : Nat) = (0 : Nat) ∧ ((0 : Nat) = (0 : Nat) ∧ (0 : Nat) = (0 : Nat) ∧ (Pl.valL x.1 (List.take x_1 x.2.2)).length = (0 : Nat)) ∧ (0 : Int) = (↑x_1 : Int) ∧ True) ∧ (Is (mrows x.1) (mrows x.1) ∧ True) ∧ (x.2.1 = x.2.1 ∧ Is (terms x.2.2) (terms x.2.2) ∧ True) ∧ ((0 : Int) = (0 : Int) ∧ (0 : Int) = (0 : Int) ∧ True) ∧ (Pl.valL x.1 (List.take x_1 x.2.2)).length = (0 : Nat) ∧ True) ∧ ∀ (x_1 : Nat),
 x_1 ≤ x.2.2.length →
 condP (decide ((↑x_1 : Int) < (↑x.2.2.length : Int)))
 (((0 : Int) ≤ (↑x_1 : Int) ∧ (↑x_1 : Int) < (↑x.2.2.length : Int)) ∧ x_1 < x.2.2.length ∧ ∃ x_2 : Pl.Mdl × Pl.TP,
 ((Is (mrows x.1) (mrows x_2.1) ∧ True) ∧ (Pl.Tree.val (x.2.2.getD x_1 Pl.dT) = x_2.2.1 ∧ Is (kidsT (x.2.2.getD x_1 Pl.dT)) (terms x_2.2.2) ∧ True) ∧ True) ∧ ((SmM x_2.1 ∧ SmT (Pl.Tree.mk x_2.2.1 x_2.2.2)) ∧ Pl.manyL x_2.2.2 < n) ∧ (0 : Nat) + (Pl.valL x.1 (List.take x_1 x.2.2)).length ≤ (Pl.valL x.1 (List.take x_1 x.2.2)).length ∧ ((Pl.valL x.1 (List.take x_1 x.2.2)).length + (1 : Nat)) * (16 : Nat) ≤ (70368744177664 : Nat) ∧ Exists fun (x' : Nat) =>
 x' ≤ x.2.2.length ∧ x.2.2.length - x' < x.2.2.length - x_1 ∧ ((0 : Nat) = (0 : Nat) ∧ (0 : Nat) = (0 : Nat) ∧ (0 : Nat) = (0 : Nat) ∧ ((0 : Nat) = (0 : Nat) ∧ (Pl.valL x.1 (List.take x_1 x.2.2)).length + (1 : Nat) = (Pl.valL x.1 (List.take x' x.2.2)).length) ∧ IntKind.i64.wrap ((↑x_1 : Int) + (1 : Int)) = (↑x' : Int) ∧ True) ∧ (Is (mrows x.1) (mrows x.1) ∧ True) ∧ (x.2.1 = x.2.1 ∧ Is (terms x.2.2) (terms x.2.2) ∧ True) ∧ ((0 : Int) = (0 : Int) ∧ (0 : Int) = (0 : Int) ∧ True) ∧ IsO
 (AObj.arr ((Pl.valL x.1 (List.take x_1 x.2.2)).length + (1 : Nat)) (2 : Nat)
 (joinC (Pl.valL x.1 (List.take x_1 x.2.2)).length (cQ (Pl.valL x.1 (List.take x_1 x.2.2)))
 (rowsCell [[i64 (Pl.valT x_2.1 (Pl.Tree.mk x_2.2.1 x_2.2.2)).1, i64 (Pl.valT x_2.1 (Pl.Tree.mk x_2.2.1 x_2.2.2)).2]])))
 (arQ (Pl.valL x.1 (List.take x' x.2.2))) ∧ True)
 ((0 : Nat) + (Pl.valL x.1 (List.take x_1 x.2.2)).length ≤ (Pl.valL x.1 (List.take x_1 x.2.2)).length ∧ ∃ x_2 : Pl.Mdl × ByteArray × List Pl.Rt,
 ((Is (mrows x.1) (mrows x_2.1) ∧ True) ∧ x.2.1 = x_2.2.1 ∧ Is (rats (Pl.valL x.1 (List.take x_1 x.2.2))) (rats x_2.2.2) ∧ True) ∧ SmM x_2.1 ∧ (Pl.look x_2.1 x_2.2.1 x_2.2.2).1 = (Pl.valT x.1 (Pl.Tree.mk x.2.1 x.2.2)).1 ∧ (Pl.look x_2.1 x_2.2.1 x_2.2.2).2 = (Pl.valT x.1 (Pl.Tree.mk x.2.1 x.2.2)).2 ∧ True)) = Goal Tryz.prog [K_l7Look, (K_l7Term n)] (A_l7Term x.1 x.2.1 x.2.2) (K_l7Term (n + 1)).1 (K_l7Term (n + 1)).2 (x) := by kernel_rfl

theorem vc_BinRow (x : Pl.Mdl × Pl.Rw) : ((∃ x_1 : Nat × Nat,
 (x_1.1 ≤ x_1.2 ∧ x_1.2 ≤ List.length x.1 ∧ Pl.bsR x.1 x.2 = Pl.bsF (Pl.rowBelow x.1 x.2) x_1.1 x_1.2) ∧ (Is (mrows x.1) (mrows x.1) ∧ True ∧ (0 : Nat) = (0 : Nat) ∧ (↑(List.length x.1) : Int) = (↑(List.length x.1) : Int) ∧ (0 : Int) = (↑x_1.1 : Int) ∧ (↑(List.length x.1) : Int) = (↑x_1.2 : Int) ∧ True) ∧ (x.2.1 = x.2.1 ∧ Is (rats x.2.2.1) (rats x.2.2.1) ∧ x.2.2.2.1 = x.2.2.2.1 ∧ x.2.2.2.2 = x.2.2.2.2 ∧ True) ∧ True) ∧ ∀ (x_1 : Nat × Nat),
 x_1.1 ≤ x_1.2 ∧ x_1.2 ≤ List.length x.1 ∧ Pl.bsR x.1 x.2 = Pl.bsF (Pl.rowBelow x.1 x.2) x_1.1 x_1.2 →
 condP (decide ((↑x_1.1 : Int) < (↑x_1.2 : Int)))
 ((0 : Int) ≤ (1 : Int) ∧ ((0 : Int) ≤ IntKind.i64.wrap ((IntKind.u64.wrap (IntKind.i64.wrap ((↑x_1.1 : Int) + (↑x_1.2 : Int)))).fdiv ((2 : Int) ^ (1 : Nat))) ∧ IntKind.i64.wrap ((IntKind.u64.wrap (IntKind.i64.wrap ((↑x_1.1 : Int) + (↑x_1.2 : Int)))).fdiv ((2 : Int) ^ (1 : Nat))) < (↑(List.length x.1) : Int)) ∧ (IntKind.i64.wrap ((IntKind.u64.wrap (IntKind.i64.wrap ((↑x_1.1 : Int) + (↑x_1.2 : Int)))).fdiv ((2 : Int) ^ (1 : Nat)))).toNat < List.length x.1 ∧ ∃ x_2 : Pl.Rw × Pl.Rw,
 (((List.getD x.1 (IntKind.i64.wrap ((IntKind.u64.wrap (IntKind.i64.wrap ((↑x_1.1 : Int) + (↑x_1.2 : Int)))).fdiv ((2 : Int) ^ (1 : Nat)))).toNat Pl.dR).1 =
 x_2.1.1 ∧ Is
 (rats
 (List.getD x.1 (IntKind.i64.wrap ((IntKind.u64.wrap (IntKind.i64.wrap ((↑x_1.1 : Int) + (↑x_1.2 : Int)))).fdiv ((2 : Int) ^ (1 : Nat)))).toNat
 Pl.dR).2.1)
 (rats x_2.1.2.1) ∧ (List.getD x.1 (IntKind.i64.wrap ((IntKind.u64.wrap (IntKind.i64.wrap ((↑x_1.1 : Int) + (↑x_1.2 : Int)))).fdiv ((2 : Int) ^ (1 : Nat)))).toNat
 Pl.dR).2.2.1 =
 x_2.1.2.2.1 ∧ (List.getD x.1 (IntKind.i64.wrap ((IntKind.u64.wrap (IntKind.i64.wrap ((↑x_1.1 : Int) + (↑x_1.2 : Int)))).fdiv ((2 : Int) ^ (1 : Nat)))).toNat
 Pl.dR).2.2.2 =
 x_2.1.2.2.2 ∧ True) ∧ (x.2.1 = x_2.2.1 ∧ Is (rats x.2.2.1) (rats x_2.2.2.1) ∧ x.2.2.2.1 = x_2.2.2.2.1 ∧ x.2.2.2.2 = x_2.2.2.2.2 ∧ True) ∧ True) ∧ (Sz x_2.1.2.1 ∧ Sz x_2.2.2.1) ∧ condP (decide (Pl.cmpRows x_2.1 x_2.2 < (0 : Int)))
 (Exists fun (x' : Nat × Nat) =>
 (x'.1 ≤ x'.2 ∧ x'.2 ≤ List.length x.1 ∧ Pl.bsR x.1 x.2 = Pl.bsF (Pl.rowBelow x.1 x.2) x'.1 x'.2) ∧ x'.2 - x'.1 < x_1.2 - x_1.1 ∧ (Is (mrows x.1) (mrows x.1) ∧ True ∧ (0 : Nat) = (0 : Nat) ∧ (↑(List.length x.1) : Int) = (↑(List.length x.1) : Int) ∧ IntKind.i64.wrap
 (IntKind.i64.wrap ((IntKind.u64.wrap (IntKind.i64.wrap ((↑x_1.1 : Int) + (↑x_1.2 : Int)))).fdiv ((2 : Int) ^ (1 : Nat))) + (1 : Int)) =
 (↑x'.1 : Int) ∧ (↑x_1.2 : Int) = (↑x'.2 : Int) ∧ True) ∧ (x.2.1 = x.2.1 ∧ Is (rats x.2.2.1) (rats x.2.2.1) ∧ x.2.2.2.1 = x.2.2.2.1 ∧ x.2.2.2.2 = x.2.2.2.2 ∧ True) ∧ True)
 (Exists fun (x' : Nat × Nat) =>
 (x'.1 ≤ x'.2 ∧ x'.2 ≤ List.length x.1 ∧ Pl.bsR x.1 x.2 = Pl.bsF (Pl.rowBelow x.1 x.2) x'.1 x'.2) ∧ x'.2 - x'.1 < x_1.2 - x_1.1 ∧ (Is (mrows x.1) (mrows x.1) ∧ True ∧ (0 : Nat) = (0 : Nat) ∧ (↑(List.length x.1) : Int) = (↑(List.length x.1) : Int) ∧ (↑x_1.1 : Int) = (↑x'.1 : Int) ∧ IntKind.i64.wrap ((IntKind.u64.wrap (IntKind.i64.wrap ((↑x_1.1 : Int) + (↑x_1.2 : Int)))).fdiv ((2 : Int) ^ (1 : Nat))) = (↑x'.2 : Int) ∧ True) ∧ (x.2.1 = x.2.1 ∧ Is (rats x.2.2.1) (rats x.2.2.1) ∧ x.2.2.2.1 = x.2.2.2.1 ∧ x.2.2.2.2 = x.2.2.2.2 ∧ True) ∧ True))
 (condP (decide ((↑x_1.1 : Int) < (↑(List.length x.1) : Int)))
 (((0 : Int) ≤ (↑x_1.1 : Int) ∧ (↑x_1.1 : Int) < (↑(List.length x.1) : Int)) ∧ x_1.1 < List.length x.1 ∧ ∃ x_2 : Pl.Rw × Pl.Rw,
 (((List.getD x.1 x_1.1 Pl.dR).1 = x_2.1.1 ∧ Is (rats (List.getD x.1 x_1.1 Pl.dR).2.1) (rats x_2.1.2.1) ∧ (List.getD x.1 x_1.1 Pl.dR).2.2.1 = x_2.1.2.2.1 ∧ (List.getD x.1 x_1.1 Pl.dR).2.2.2 = x_2.1.2.2.2 ∧ True) ∧ (x.2.1 = x_2.2.1 ∧ Is (rats x.2.2.1) (rats x_2.2.2.1) ∧ x.2.2.2.1 = x_2.2.2.2.1 ∧ x.2.2.2.2 = x_2.2.2.2.2 ∧ True) ∧ True) ∧ (Sz x_2.1.2.1 ∧ Sz x_2.2.2.1) ∧ (↑x_1.1 : Int) = (↑(Pl.bsR x.1 x.2) : Int) ∧ (Pl.cmpRows x_2.1 x_2.2 == (0 : Int)) = Pl.bsHit x.1 x.2 ∧ True)
 ((↑x_1.1 : Int) = (↑(Pl.bsR x.1 x.2) : Int) ∧ false = Pl.bsHit x.1 x.2 ∧ True))) = Goal Tryz.prog [K_compareRows] (A_BinRow x.1 x.2) K_BinRow.1 K_BinRow.2 (x) := by kernel_rfl

theorem vc_value (n : Nat) (x : Pl.Mdl × Pl.TP) : ((∃ x_1 : Nat,
 x_1 ≤ x.2.2.length ∧ ((0 : Nat) = (0 : Nat) ∧ (0 : Nat) = (0 : Nat) ∧ (0 : Nat) = (0 : Nat) ∧ (0 : Nat) = (0 : Nat) ∧ Is (terms x.2.2) (terms x.2.2) ∧ (↑x.2.2.length : Int) = (↑x.2.2.length : Int) ∧ (0 : Int) = (↑x_1 : Int) ∧ True) ∧ (Is (mrows x.1) (mrows x.1) ∧ True) ∧ (x.2.1 = x.2.1 ∧ Is (terms x.2.2) (terms x.2.2) ∧ True) ∧ ((0 : Int) = (0 : Int) ∧ (0 : Int) = (0 : Int) ∧ True) ∧ (x.2.1 = x.2.1 ∧ ((0 : Nat) = (0 : Nat) ∧ (0 : Nat) = (0 : Nat) ∧ (Pl.valL x.1 (List.take x_1 x.2.2)).length = (0 : Nat)) ∧ (0 : Int) = (0 : Int) ∧ (0 : Int) = (0 : Int) ∧ True) ∧ (Pl.valL x.1 (List.take x_1 x.2.2)).length = (0 : Nat) ∧ True) ∧ ∀ (x_1 : Nat),
 x_1 ≤ x.2.2.length →
 condP (decide ((↑x_1 : Int) < (↑x.2.2.length : Int)))
 (((0 : Int) ≤ (↑x_1 : Int) ∧ (↑x_1 : Int) < (↑x.2.2.length : Int)) ∧ x_1 < x.2.2.length ∧ ∃ x_2 : Pl.Mdl × Pl.TP,
 ((Is (mrows x.1) (mrows x_2.1) ∧ True) ∧ (Pl.Tree.val (x.2.2.getD x_1 Pl.dT) = x_2.2.1 ∧ Is (kidsT (x.2.2.getD x_1 Pl.dT)) (terms x_2.2.2) ∧ True) ∧ True) ∧ ((Pl.mL Option.none x_2.1 = true ∧ SmM x_2.1 ∧ SmT (Pl.Tree.mk x_2.2.1 x_2.2.2)) ∧ Pl.manyL x_2.2.2 < n) ∧ (0 : Nat) + (Pl.valL x.1 (List.take x_1 x.2.2)).length ≤ (Pl.valL x.1 (List.take x_1 x.2.2)).length ∧ ((Pl.valL x.1 (List.take x_1 x.2.2)).length + (1 : Nat)) * (16 : Nat) ≤ (70368744177664 : Nat) ∧ Exists fun (x' : Nat) =>
 x' ≤ x.2.2.length ∧ x.2.2.length - x' < x.2.2.length - x_1 ∧ ((0 : Nat) = (0 : Nat) ∧ (0 : Nat) = (0 : Nat) ∧ (0 : Nat) = (0 : Nat) ∧ (0 : Nat) = (0 : Nat) ∧ Is (terms x.2.2) (terms x.2.2) ∧ (↑x.2.2.length : Int) = (↑x.2.2.length : Int) ∧ IntKind.i64.wrap ((↑x_1 : Int) + (1 : Int)) = (↑x' : Int) ∧ True) ∧ (Is (mrows x.1) (mrows x.1) ∧ True) ∧ (x.2.1 = x.2.1 ∧ Is (terms x.2.2) (terms x.2.2) ∧ True) ∧ ((0 : Int) = (0 : Int) ∧ (0 : Int) = (0 : Int) ∧ True) ∧ (x.2.1 = x.2.1 ∧ ((0 : Nat) = (0 : Nat) ∧ (Pl.valL x.1 (List.take x_1 x.2.2)).length + (1 : Nat) = (Pl.valL x.1 (List.take x' x.2.2)).length) ∧ (0 : Int) = (0 : Int) ∧ (0 : Int) = (0 : Int) ∧ True) ∧ IsO
 (AObj.arr ((Pl.valL x.1 (List.take x_1 x.2.2)).length + (1 : Nat)) (2 : Nat)
 (joinC (Pl.valL x.1 (List.take x_1 x.2.2)).length (cQ (Pl.valL x.1 (List.take x_1 x.2.2)))
 (rowsCell [[i64 (Pl.valT x_2.1 (Pl.Tree.mk x_2.2.1 x_2.2.2)).1, i64 (Pl.valT x_2.1 (Pl.Tree.mk x_2.2.1 x_2.2.2)).2]])))
 (arQ (Pl.valL x.1 (List.take x' x.2.2))) ∧ True)
 ((0 : Nat) + (Pl.valL x.1 (List.take x_1 x.2.2)).length ≤ (Pl.valL x.1 (List.take x_1 x.2.2)).length ∧ ∃ x_2 : Pl.Mdl × Pl.Rw,
 (Is (mrows x.1) (mrows x_2.1) ∧ (x.2.1 = x_2.2.1 ∧ Is (rats (Pl.valL x.1 (List.take x_1 x.2.2))) (rats x_2.2.2.1) ∧ (0 : Int) = x_2.2.2.2.1 ∧ (0 : Int) = x_2.2.2.2.2 ∧ True) ∧ True ∧ True) ∧ (SmM x_2.1 ∧ Sz x_2.2.2.1) ∧ condP (!Pl.bsHit x_2.1 x_2.2)
 (∃ x_3 : Int,
 ((0 : Int) = x_3 ∧ True) ∧ True ∧ x_3 = (Pl.valT x.1 (Pl.Tree.mk x.2.1 x.2.2)).1 ∧ Int.ofNat ((1 : Nat)) = (Pl.valT x.1 (Pl.Tree.mk x.2.1 x.2.2)).2 ∧ True)
 (((0 : Int) ≤ (↑(Pl.bsR x_2.1 x_2.2) : Int) ∧ (↑(Pl.bsR x_2.1 x_2.2) : Int) < (↑(List.length x.1) : Int)) ∧ Pl.bsR x_2.1 x_2.2 < List.length x.1 ∧ (List.getD x.1 (Pl.bsR x_2.1 x_2.2) Pl.dR).2.2.1 = (Pl.valT x.1 (Pl.Tree.mk x.2.1 x.2.2)).1 ∧ (List.getD x.1 (Pl.bsR x_2.1 x_2.2) Pl.dR).2.2.2 = (Pl.valT x.1 (Pl.Tree.mk x.2.1 x.2.2)).2 ∧ True))) = Goal Tryz.prog [K_whole, K_BinRow, (K_value n)] (A_value x.1 x.2.1 x.2.2) (K_value (n + 1)).1 (K_value (n + 1)).2 (x) := by kernel_rfl

end Cg

/-
  The codes' contracts: the values of terms. No condition.
-/
set_option linter.unusedVariables false
set_option linter.unusedSimpArgs false
set_option maxRecDepth 100000
set_option maxHeartbeats 1000000
namespace Pl
open Go Cg
theorem take_getD {α : Type} (d : α) {l : List α} {i : Nat} (h : i < l.length) : l.take (i + 1) = l.take i ++ [l.getD i d] := by
  rw [List.take_succ_eq_append_getElem h]; simp [h]
theorem bl_trans : ∀ {x y z : List UInt8}, Op.bytesLess x y = true → Op.bytesLess y z = true → Op.bytesLess x z = true
  | [], [], _, h, _ => by cases h
  | [], _ :: _, [], _, h => by cases h
  | [], _ :: _, _ :: _, _, _ => rfl
  | _ :: _, [], _, h, _ => by cases h
  | _ :: _, _ :: _, [], _, h => by cases h
  | a :: x, b :: y, c :: z, h, k => by
    simp only [Op.bytesLess, Bool.or_eq_true, decide_eq_true_eq, Bool.and_eq_true, beq_iff_eq, UInt8.lt_iff_toNat_lt] at h k ⊢
    rcases h with h | ⟨h, h1⟩ <;> rcases k with k | ⟨k, k1⟩
    · exact .inl (by omega)
    · subst k; exact .inl h
    · subst h; exact .inl k
    · subst h; subst k; exact .inr ⟨rfl, bl_trans h1 k1⟩
theorem valL_map (m : Mdl) : ∀ l : List Tm, valL m l = l.map (valT m)
  | [] => rfl
  | t :: ts => by simp only [valL, List.map_cons, valL_map m ts]
theorem valL_len (m : Mdl) (l : List Tm) : (valL m l).length = l.length := by rw [valL_map]; simp
theorem valL_step (m : Mdl) {l : List Tm} {k : Nat} (h : k < l.length) : valL m (l.take (k + 1)) = valL m (l.take k) ++ [valT m (l.getD k dT)] := by
  rw [valL_map, valL_map, take_getD dT h]; simp
theorem valT_mk (m : Mdl) (v : ByteArray) (ks : List Tm) : valT m (.mk v ks) = look m v (valL m ks) := by rw [valT]
theorem look_cons (r : Rw) (m : Mdl) (nm : ByteArray) (args : List Rt) : look (r :: m) nm args = if r.1 = nm ∧ r.2.1 = args then r.2.2 else look m nm args := by
  unfold look
  rw [List.find?_cons]
  by_cases h : r.1 = nm ∧ r.2.1 = args
  · rw [if_pos h, decide_eq_true h.1, decide_eq_true h.2]; rfl
  · rw [if_neg h]
    have : (decide (r.1 = nm) && decide (r.2.1 = args)) = false := by
      rw [← Bool.decide_and]; exact decide_eq_false h
    rw [this]
theorem ratOk_one : ratOk (0, 1) = true := by decide
theorem look_ok {m : Mdl} (h : mL none m = true) (nm : ByteArray) (args : List Rt) : ratOk (look m nm args) = true := by
  unfold look
  cases e : m.find? fun r => decide (r.1 = nm) && decide (r.2.1 = args) with
  | none => exact ratOk_one
  | some r => exact (rowOk_iff.1 (mL_mem h r (List.mem_of_find?_eq_some e))).2.2.1
theorem valT_ok {m : Mdl} (h : mL none m = true) (t : Tm) : ratOk (valT m t) = true := by
  cases t with
  | mk v ks => rw [valT_mk]; exact look_ok h _ _
theorem valL_ok {m : Mdl} (h : mL none m = true) (l : List Tm) : (valL m l).all ratOk = true := by
  rw [valL_map, List.all_map, List.all_eq_true]
  exact fun t _ => valT_ok h t

/-! ### Rows in order -/
theorem ratLess_iff {x y : Rt} (hx : ratOk x = true) (hy : ratOk y = true) : ratLess x y = true ↔ x.1 * y.2 < y.1 * x.2 := by
  unfold ratLess; rw [hx, hy]; simp
theorem ratLess_trans {x y z : Rt} (hx : ratOk x = true) (hy : ratOk y = true) (hz : ratOk z = true) (h1 : ratLess x y = true) (h2 : ratLess y z = true) : ratLess x z = true := by
  rw [ratLess_iff hx hy] at h1
  rw [ratLess_iff hy hz] at h2
  rw [ratLess_iff hx hz]
  have p1 := (ratOk_iff.1 hx).2.2.1
  have p2 := (ratOk_iff.1 hy).2.2.1
  have p3 := (ratOk_iff.1 hz).2.2.1
  have e1 : x.1 * y.2 * z.2 < y.1 * x.2 * z.2 := Int.mul_lt_mul_of_pos_right h1 (by omega)
  have e2 : y.1 * z.2 * x.2 < z.1 * y.2 * x.2 := Int.mul_lt_mul_of_pos_right h2 (by omega)
  have e3 : (x.1 * z.2) * y.2 < (z.1 * x.2) * y.2 := by
    have a1 : x.1 * z.2 * y.2 = x.1 * y.2 * z.2 := by rw [Int.mul_assoc, Int.mul_comm z.2, ← Int.mul_assoc]
    have a2 : z.1 * x.2 * y.2 = z.1 * y.2 * x.2 := by rw [Int.mul_assoc, Int.mul_comm x.2, ← Int.mul_assoc]
    have a3 : y.1 * x.2 * z.2 = y.1 * z.2 * x.2 := by rw [Int.mul_assoc, Int.mul_comm x.2, ← Int.mul_assoc]
    rw [a1, a2]; rw [a3] at e1; omega
  exact Int.lt_of_mul_lt_mul_right e3 (by omega)
theorem argsLess_trans : ∀ {a b c : List Rt}, a.length = b.length → b.length = c.length → a.all ratOk = true → b.all ratOk = true → c.all ratOk = true → argsLess a b = true → argsLess b c = true → argsLess a c = true
  | [], _, _, _, _, _, _, _, h, _ => by cases h
  | _ :: _, [], _, h, _, _, _, _, _, _ => by simp at h
  | _ :: _, _ :: _, [], _, h, _, _, _, _, _ => by simp at h
  | x :: a, y :: b, z :: c, h1, h2, ha, hb, hc, l1, l2 => by
    simp only [List.all_cons, Bool.and_eq_true] at ha hb hc
    simp only [argsLess] at l1 l2 ⊢
    by_cases e1 : x = y
    · subst e1
      rw [if_pos rfl] at l1
      by_cases e2 : x = z
      · subst e2
        rw [if_pos rfl] at l2 ⊢
        exact argsLess_trans (by simpa using h1) (by simpa using h2) ha.2 hb.2 hc.2 l1 l2
      · rw [if_neg e2] at l2 ⊢; exact l2
    · rw [if_neg e1] at l1
      by_cases e2 : y = z
      · subst e2
        rw [if_neg e1]; exact l1
      · rw [if_neg e2] at l2
        have l3 := ratLess_trans ha.1 hb.1 hc.1 l1 l2
        by_cases e3 : x = z
        · subst e3
          rw [ratLess_iff ha.1 ha.1] at l3; omega
        · rw [if_neg e3]; exact l3
theorem sLess_trans {a b c : ByteArray} (h1 : sLess a b = true) (h2 : sLess b c = true) : sLess a c = true := bl_trans h1 h2
theorem sLess_irrefl (a : ByteArray) : sLess a a = false := bl_irrefl _
theorem rowLess_trans {x y z : Rw} (hx : x.2.1.all ratOk = true) (hy : y.2.1.all ratOk = true) (hz : z.2.1.all ratOk = true) (h1 : rowLess x y = true) (h2 : rowLess y z = true) : rowLess x z = true := by
  unfold rowLess at h1 h2 ⊢
  by_cases e1 : x.1 = y.1
  · rw [if_pos e1] at h1
    rw [e1]
    by_cases e2 : y.1 = z.1
    · rw [if_pos e2] at h2 ⊢
      by_cases l1 : x.2.1.length = y.2.1.length
      · rw [if_pos l1] at h1
        rw [l1]
        by_cases l2 : y.2.1.length = z.2.1.length
        · rw [if_pos l2] at h2 ⊢; exact argsLess_trans l1 l2 hx hy hz h1 h2
        · rw [if_neg l2] at h2 ⊢; exact h2
      · rw [if_neg l1] at h1
        simp only [decide_eq_true_eq] at h1
        by_cases l2 : y.2.1.length = z.2.1.length
        · rw [← l2, if_neg l1]; simpa using h1
        · rw [if_neg l2] at h2
          simp only [decide_eq_true_eq] at h2
          rw [if_neg (by omega)]; simp only [decide_eq_true_eq]; omega
    · rw [if_neg e2] at h2 ⊢; exact h2
  · rw [if_neg e1] at h1
    by_cases e2 : y.1 = z.1
    · rw [← e2, if_neg e1]; exact h1
    · rw [if_neg e2] at h2
      have h3 := sLess_trans h1 h2
      rw [if_neg]
      · exact h3
      · intro e; rw [e, sLess_irrefl] at h3; cases h3
theorem argsLess_irrefl : ∀ l : List Rt, argsLess l l = false
  | [] => rfl
  | a :: l => by simp only [argsLess, if_true]; exact argsLess_irrefl l
theorem rowLess_irrefl {x : Rw} (hx : x.2.1.all ratOk = true) : rowLess x x = false := by
  unfold rowLess
  rw [if_pos rfl, if_pos rfl]
  exact argsLess_irrefl _
theorem cmpArgs_zero : ∀ {a b : List Rt}, a.all ratOk = true → b.all ratOk = true → (cmpArgs a b = 0 ↔ a = b)
  | [], [], _, _ => by simp [cmpArgs]
  | [], _ :: _, _, _ => by simp [cmpArgs]
  | _ :: _, [], _, _ => by simp [cmpArgs]
  | x :: a, y :: b, ha, hb => by
    simp only [List.all_cons, Bool.and_eq_true] at ha hb
    have h1 := cmpRat_zero ha.1 hb.1
    simp only [cmpArgs]
    by_cases e : x = y
    · subst e
      rw [if_pos (h1.2 rfl), cmpArgs_zero ha.2 hb.2]; simp
    · rw [if_neg (fun h => e (h1.1 h))]
      exact ⟨fun h => absurd (h1.1 h) e, fun h => by simp at h; exact absurd h.1 e⟩
theorem cmpRows_zero {x y : Rw} (hx : x.2.1.all ratOk = true) (hy : y.2.1.all ratOk = true) : cmpRows x y = 0 ↔ x.1 = y.1 ∧ x.2.1 = y.2.1 := by
  unfold cmpRows
  simp only [orI, cmpS_zero, cmpI_zero]
  have h3 := cmpArgs_zero hx hy
  by_cases h1 : x.1 = y.1
  · rw [if_pos h1]
    by_cases h2 : (x.2.1.length : Int) = y.2.1.length
    · rw [if_pos h2]
      split
      · rename_i h4; exact ⟨fun _ => ⟨h1, h3.1 h4⟩, fun _ => rfl⟩
      · rename_i h4; exact ⟨fun h => absurd h h4, fun h => absurd (h3.2 h.2) h4⟩
    · rw [if_neg h2, cmpI_zero]
      exact ⟨fun h => absurd h h2, fun h => absurd (by rw [h.2]) h2⟩
  · rw [if_neg h1, cmpS_zero]
    exact ⟨fun h => absurd h h1, fun h => absurd h.1 h1⟩
/-- Rows in order: each is below those behind it. -/
theorem mL_sorted : ∀ {m : Mdl} {p : Option Rw}, mL p m = true → (∀ q, p = some q → q.2.1.all ratOk = true → ∀ y ∈ m, rowLess q y = true) ∧ ∀ i j, i < j → j < m.length → rowLess (m.getD i dR) (m.getD j dR) = true
  | [], _, _ => ⟨fun _ _ _ y hy => (by cases hy), fun i j _ h => absurd h (Nat.not_lt_zero _)⟩
  | x :: m, p, h => by
    have hall := mL_mem h
    simp only [mL, Bool.and_eq_true] at h
    obtain ⟨⟨h1, h2⟩, h3⟩ := h
    have hx := (rowOk_iff.1 h1).2.2.2
    obtain ⟨i1, i2⟩ := mL_sorted h3
    have i1 := i1 x rfl hx
    refine ⟨fun q hq hqo y hy => ?_, fun i j hij hj => ?_⟩
    · subst hq
      rcases List.mem_cons.1 hy with e | e
      · subst e; exact h2
      · exact rowLess_trans hqo hx (rowOk_iff.1 (hall y (List.mem_cons_of_mem _ e))).2.2.2 h2 (i1 y e)
    · cases j with
      | zero => omega
      | succ j =>
        cases i with
        | zero => exact i1 _ (getD_mem dR (by simpa using hj))
        | succ i => exact i2 i j (by omega) (by simpa using hj)
theorem cmpRows_less {x y : Rw} (ha : x.2.1.all ratOk = true) (hb : y.2.1.all ratOk = true) : cmpRows x y < 0 ↔ rowLess x y = true := by
  unfold cmpRows rowLess
  simp only [orI, cmpS_zero, cmpI_zero]
  by_cases h1 : x.1 = y.1
  · rw [if_pos h1, if_pos h1]
    by_cases h2 : x.2.1.length = y.2.1.length
    · rw [if_pos (by omega), if_pos h2]
      have := cmpArgs_neg h2 ha hb
      split
      · rename_i h3; rw [← this, h3]
      · exact this
    · rw [if_neg (by omega), if_neg h2, cmpI_neg]
      simp only [decide_eq_true_eq]; omega
  · rw [if_neg h1, if_neg h1]; exact cmpS_neg
theorem rowLess_key {x y z : Rw} (h1 : y.1 = z.1) (h2 : y.2.1 = z.2.1) : rowLess x y = rowLess x z := by
  unfold rowLess; rw [h1, h2]

/-! ### The search -/
theorem bsF_spec {c : Nat → Bool} {n : Nat} (mono : ∀ a b, a ≤ b → b < n → c b = true → c a = true) : ∀ (d i j : Nat), j - i ≤ d → i ≤ j → j ≤ n →
    i ≤ bsF c i j ∧ bsF c i j ≤ j ∧ (∀ t, i ≤ t → t < bsF c i j → c t = true) ∧ (∀ t, bsF c i j ≤ t → t < j → c t = false)
  | 0, i, j, hd, hij, hj => by
    have e : i = j := by omega
    subst e
    rw [bsF, if_neg (Nat.lt_irrefl _)]
    exact ⟨Nat.le_refl _, Nat.le_refl _, fun t _ _ => by omega, fun t _ _ => by omega⟩
  | d + 1, i, j, hd, hij, hj => by
    by_cases h : i < j
    · rw [bsF, if_pos h]
      by_cases hc : c ((i + j) / 2) = true
      · rw [if_pos hc]
        obtain ⟨h1, h2, h3, h4⟩ := bsF_spec mono d ((i + j) / 2 + 1) j (by omega) (by omega) hj
        refine ⟨by omega, h2, fun t ht1 ht2 => ?_, h4⟩
        by_cases ht : t ≤ (i + j) / 2
        · exact mono t _ ht (by omega) hc
        · exact h3 t (by omega) ht2
      · rw [if_neg hc]
        obtain ⟨h1, h2, h3, h4⟩ := bsF_spec mono d i ((i + j) / 2) (by omega) (by omega) (by omega)
        refine ⟨h1, by omega, h3, fun t ht1 ht2 => ?_⟩
        by_cases ht : t < (i + j) / 2
        · exact h4 t ht1 ht
        · cases hct : c t with
          | false => rfl
          | true => exact absurd (mono _ t (by omega) (by omega) hct) hc
    · have e : i = j := by omega
      subst e
      rw [bsF, if_neg (Nat.lt_irrefl _)]
      exact ⟨Nat.le_refl _, Nat.le_refl _, fun t _ _ => by omega, fun t _ _ => by omega⟩
theorem look_hit {nm : ByteArray} {args : List Rt} : ∀ {m : Mdl} {k : Nat}, k < m.length → (m.getD k dR).1 = nm → (m.getD k dR).2.1 = args → (∀ t, t < k → ¬ ((m.getD t dR).1 = nm ∧ (m.getD t dR).2.1 = args)) → look m nm args = (m.getD k dR).2.2
  | [], k, h, _, _, _ => by simp at h
  | x :: m, 0, _, h1, h2, _ => by
    simp only [List.getD_cons_zero] at h1 h2 ⊢
    rw [look_cons, if_pos ⟨h1, h2⟩]
  | x :: m, k + 1, h, h1, h2, h3 => by
    have h0 := h3 0 (by omega)
    simp only [List.getD_cons_zero, List.getD_cons_succ] at h0 h1 h2 ⊢
    rw [look_cons, if_neg h0]
    exact look_hit (by simpa using h) h1 h2 fun t ht => by have := h3 (t + 1) (by omega); simpa only [List.getD_cons_succ] using this
theorem look_miss {nm : ByteArray} {args : List Rt} : ∀ {m : Mdl}, (∀ t, t < m.length → ¬ ((m.getD t dR).1 = nm ∧ (m.getD t dR).2.1 = args)) → look m nm args = (0, 1)
  | [], _ => rfl
  | x :: m, h => by
    have h0 := h 0 (by simp)
    simp only [List.getD_cons_zero] at h0
    rw [look_cons, if_neg h0]
    exact look_miss fun t ht => by have := h (t + 1) (by simpa using ht); simpa only [List.getD_cons_succ] using this
theorem search_look {m : Mdl} (h : mL none m = true) {r : Rw} (hr : r.2.1.all ratOk = true) : bsR m r ≤ m.length ∧ (bsHit m r = true → bsR m r < m.length ∧ look m r.1 r.2.1 = (m.getD (bsR m r) dR).2.2) ∧ (bsHit m r = false → look m r.1 r.2.1 = (0, 1)) := by
  have hm : ∀ t, t < m.length → (m.getD t dR).2.1.all ratOk = true := fun t ht => (rowOk_iff.1 (mL_mem h _ (getD_mem dR ht))).2.2.2
  have hs := (mL_sorted h).2
  have cl : ∀ t, t < m.length → (rowBelow m r t = true ↔ rowLess (m.getD t dR) r = true) := fun t ht => by
    unfold rowBelow; rw [decide_eq_true_eq]; exact cmpRows_less (hm t ht) hr
  have mono : ∀ a b, a ≤ b → b < m.length → rowBelow m r b = true → rowBelow m r a = true := fun a b hab hb hc => by
    by_cases e : a = b
    · rw [e]; exact hc
    · rw [cl b hb] at hc
      rw [cl a (by omega)]
      exact rowLess_trans (hm a (by omega)) (hm b hb) hr (hs a b (by omega) hb) hc
  obtain ⟨h1, h2, h3, h4⟩ := bsF_spec mono m.length 0 m.length (by omega) (by omega) (Nat.le_refl _)
  have e : bsF (rowBelow m r) 0 m.length = bsR m r := rfl
  rw [e] at h1 h2 h3 h4
  have less : ∀ t, t < bsR m r → ¬ ((m.getD t dR).1 = r.1 ∧ (m.getD t dR).2.1 = r.2.1) := fun t ht ⟨e1, e2⟩ => by
    have h5 := h3 t (by omega) ht
    rw [cl t (by omega), rowLess_key (y := r) (z := m.getD t dR) e1.symm e2.symm, rowLess_irrefl (hm t (by omega))] at h5
    cases h5
  refine ⟨h2, fun hh => ?_, fun hh => ?_⟩
  · simp only [bsHit, Bool.and_eq_true, decide_eq_true_eq] at hh
    obtain ⟨hlt, hz⟩ := hh
    obtain ⟨e1, e2⟩ := (cmpRows_zero (hm _ hlt) hr).1 hz
    exact ⟨hlt, look_hit hlt e1 e2 less⟩
  · refine look_miss fun t ht ⟨e1, e2⟩ => ?_
    rcases Nat.lt_trichotomy t (bsR m r) with h5 | h5 | h5
    · exact less t h5 ⟨e1, e2⟩
    · subst h5
      have := (cmpRows_zero (hm _ ht) hr).2 ⟨e1, e2⟩
      simp only [bsHit, this, decide_eq_true ht] at hh
      simp at hh
    · have h6 := hs (bsR m r) t h5 ht
      rw [rowLess_key e1 e2, ← cl _ (by omega), h4 _ (Nat.le_refl _) (by omega)] at h6
      cases h6
end Pl
namespace Cg
open Go Go.Proofs Pl

theorem mid_wrap {a b : Nat} (h : a + b ≤ 1099511627776) : IntKind.i64.wrap ((IntKind.u64.wrap (IntKind.i64.wrap ((a : Int) + (b : Int)))).fdiv 2) = (((a + b) / 2 : Nat) : Int) := by
  rw [wrap_small (x := (a : Int) + b) (by omega) (by omega)]
  have e : IntKind.u64.wrap ((a : Int) + b) = (a : Int) + b := by
    simp only [IntKind.wrap, IntKind.signed, IntKind.bits]
    simp
    omega
  rw [e]
  have e2 : ((a : Int) + b).fdiv 2 = (((a + b) / 2 : Nat) : Int) := by
    rw [Int.fdiv_eq_ediv_of_nonneg _ (by decide)]; omega
  rw [e2]
  exact wrap_small (by omega) (by omega)
theorem k_whole : SoundC Tryz.prog K_whole.1 K_whole.2 := sound_of hm CtxOK.nil (fun _ => []) (by kernel_rfl) fun (x : Int) hl => (by
  rw [← vc_whole x]
  simp [-List.getD_eq_getElem?_getD, -List.mem_cons, -Bool.forall_bool, -Bool.exists_bool, and_assoc, peta, tl_inj, ex_1, ex_2, ex_3, ex_4, ex_5, ex_6, ex_7, ex_8, ex_9, ey_2, ey_3, ey_4, ey_5, ey_6, ey_7, ey_8, ey_9])
theorem k_l7Look : SoundC Tryz.prog K_l7Look.1 K_l7Look.2 := sound_of hm (CtxOK.nil.and k_l7Rats) (fun x => A_l7Look x.1 x.2.1 x.2.2) (by kernel_rfl) fun (x : Mdl × ByteArray × List Rt) hl => (by
  rw [← vc_l7Look x]
  have h1 : SmM x.1 := hl
  obtain ⟨m, nm, args⟩ := x
  dsimp only at *
  simp [-List.getD_eq_getElem?_getD, -List.mem_cons, -Bool.forall_bool, -Bool.exists_bool, and_assoc, peta, tl_inj, ex_1, ex_2, ex_3, ex_4, ex_5, ex_6, ex_7, ex_8, ex_9, ey_2, ey_3, ey_4, ey_5, ey_6, ey_7, ey_8, ey_9]
  have hlen := h1.len
  refine ⟨⟨0, by simp, by simp, rfl⟩, fun k hk he => ⟨fun hlt => ?_, fun hge => ?_⟩⟩
  · rw [drop_get dR hlt, look_cons] at he
    have hz := (h1.mem (getD_mem dR hlt)).2
    refine ⟨hlt, fun e1 => ⟨hlt, by omega, fun e2 => ⟨hlt, ?_⟩, fun e2 => ⟨k + 1, hlt, ?_, by omega, wrap_small (by omega) (by omega)⟩⟩, fun e1 => ⟨k + 1, hlt, ?_, by omega, wrap_small (by omega) (by omega)⟩⟩
    · rw [he, if_pos ⟨e1, e2⟩]; exact ⟨rfl, rfl⟩
    · rw [he, if_neg (fun h => e2 h.2)]
    · rw [he, if_neg (fun h => e1 h.1)]
  · rw [he, drop_end (by omega)]; exact ⟨rfl, rfl⟩)
theorem k_l7Term (n : Nat) : SoundC Tryz.prog (K_l7Term n).1 (K_l7Term n).2 := by
  induction n with
  | zero => exact sound_of hm CtxOK.nil (fun _ => []) (by kernel_rfl) fun x h => absurd h.2 (Nat.not_lt_zero _)
  | succ n ih => exact sound_of hm ((CtxOK.nil.and (K := K_l7Term n) ih).and k_l7Look) (fun x => A_l7Term x.1 x.2.1 x.2.2) (by kernel_rfl) fun (x : Mdl × TP) hl => (by
      have hg : SmM x.1 := hl.1.1
      have ht : SmT (.mk x.2.1 x.2.2) := hl.1.2
      have hn : manyL x.2.2 < n + 1 := hl.2
      clear hl
      rw [← vc_l7Term n x]
      obtain ⟨m, a, b⟩ := x
      dsimp only at *
      simp [-List.getD_eq_getElem?_getD, -List.mem_cons, -Bool.forall_bool, -Bool.exists_bool, and_assoc, peta, tl_inj, ex_1, ex_2, ex_3, ex_4, ex_5, ex_6, ex_7, ex_8, ex_9, ey_2, ey_3, ey_4, ey_5, ey_6, ey_7, ey_8, ey_9]
      have k1 := (SmT.kids ht).len
      refine ⟨⟨0, by simp, by simp [valL], rfl, by simp [valL]⟩, fun k hk => ⟨fun hlt => ?_, fun hge => ?_⟩⟩
      · have hv := valL_step m hlt
        have hl1 := valL_len m (b.take k)
        rw [List.length_take] at hl1
        refine ⟨hlt, hg, (SmT.kids ht).mem (getD_mem dT hlt), by have := manyL_kids (getD_mem dT hlt); omega, by omega, k + 1, hlt, by omega, by rw [hv]; simp, wrap_small (by omega) (by omega), ?_⟩
        rw [hv]; exact rats_push
      · rw [List.take_of_length_le (by omega), valT_mk]; exact ⟨hg, rfl, rfl⟩)
theorem k_lTm : SoundC Tryz.prog K_lTm.1 K_lTm.2 := SoundC.fam (fun x => manyL x.2.2) fun n => k_l7Term n
theorem k_BinRow : SoundC Tryz.prog K_BinRow.1 K_BinRow.2 := sound_of hm (CtxOK.nil.and k_compareRows) (fun x => A_BinRow x.1 x.2) (by kernel_rfl) fun (x : Mdl × Rw) hl => (by
  rw [← vc_BinRow x]
  obtain ⟨h1, h2⟩ : SmM x.1 ∧ Sz x.2.2.1 := hl
  obtain ⟨m, nm, args, u1, u2⟩ := x
  dsimp only at *
  simp [-List.getD_eq_getElem?_getD, -List.mem_cons, -Bool.forall_bool, -Bool.exists_bool, and_assoc, peta, tl_inj, ex_1, ex_2, ex_3, ex_4, ex_5, ex_6, ex_7, ex_8, ex_9, ey_2, ey_3, ey_4, ey_5, ey_6, ey_7, ey_8, ey_9]
  have hlen := h1.len
  refine ⟨⟨0, m.length, by omega, by omega, rfl, rfl, rfl⟩, fun i j hij hj he => ⟨fun hlt => ?_, fun hge => ?_⟩⟩
  · rw [mid_wrap (by omega)]
    rw [bsF, if_pos hlt] at he
    have hm : (i + j) / 2 < m.length := by omega
    have hz := (h1.mem (getD_mem dR hm)).2
    refine ⟨by omega, by omega, by omega, by rw [Int.toNat_natCast]; omega, h2, fun h => ?_, fun h => ?_⟩
    · rw [Int.toNat_natCast] at h
      rw [if_pos (by unfold rowBelow; exact decide_eq_true h)] at he
      exact ⟨(i + j) / 2 + 1, j, by omega, hj, he, by omega, wrap_small (by omega) (by omega), rfl⟩
    · rw [Int.toNat_natCast] at h
      rw [if_neg (by unfold rowBelow; rw [decide_eq_true_eq]; omega)] at he
      exact ⟨i, (i + j) / 2, by omega, by omega, he, by omega, rfl, rfl⟩
  · rw [bsF, if_neg (by omega)] at he
    refine ⟨fun h => ⟨h, by have := (h1.mem (getD_mem dR h)).2; omega, h2, by rw [he], ?_⟩, fun h => ⟨by rw [he], ?_⟩⟩
    · unfold bsHit
      rw [he, decide_eq_true h, Bool.true_and, Bool.beq_eq_decide_eq]
    · unfold bsHit
      rw [he, decide_eq_false (by omega)]; rfl)
theorem k_value (n : Nat) : SoundC Tryz.prog (K_value n).1 (K_value n).2 := by
  induction n with
  | zero => exact sound_of hm CtxOK.nil (fun _ => []) (by kernel_rfl) fun x h => absurd h.2 (Nat.not_lt_zero _)
  | succ n ih => exact sound_of hm (((CtxOK.nil.and (K := K_value n) ih).and k_BinRow).and k_whole) (fun x => A_value x.1 x.2.1 x.2.2) (by kernel_rfl) fun (x : Mdl × TP) hl => (by
      have hs : mL none x.1 = true := hl.1.1
      have hg : SmM x.1 := hl.1.2.1
      have ht : SmT (.mk x.2.1 x.2.2) := hl.1.2.2
      have hn : manyL x.2.2 < n + 1 := hl.2
      clear hl
      rw [← vc_value n x]
      obtain ⟨m, a, b⟩ := x
      dsimp only at *
      simp [-List.getD_eq_getElem?_getD, -List.mem_cons, -Bool.forall_bool, -Bool.exists_bool, and_assoc, peta, tl_inj, ex_1, ex_2, ex_3, ex_4, ex_5, ex_6, ex_7, ex_8, ex_9, ey_2, ey_3, ey_4, ey_5, ey_6, ey_7, ey_8, ey_9]
      have k1 := (SmT.kids ht).len
      have hl0 := valL_len m (b.take 0)
      refine ⟨⟨0, by simp, rfl, by simp [valL]⟩, fun k hk => ⟨fun hlt => ?_, fun hge => ?_⟩⟩
      · have hv := valL_step m hlt
        have hl1 := valL_len m (b.take k)
        rw [List.length_take] at hl1
        refine ⟨hlt, hs, hg, (SmT.kids ht).mem (getD_mem dT hlt), by have := manyL_kids (getD_mem dT hlt); omega, by omega, k + 1, hlt, by omega, wrap_small (by omega) (by omega), by rw [hv]; simp, ?_⟩
        rw [hv]; exact rats_push
      · rw [List.take_of_length_le (by omega), valT_mk]
        obtain ⟨_, s1, s2⟩ := search_look hs (r := (a, valL m b, 0, 0)) (valL_ok hs b)
        dsimp only at s1 s2
        refine ⟨hg, by rw [valL_len]; omega, fun h => ?_, fun h => ?_⟩
        · rw [s2 h]; exact ⟨rfl, rfl⟩
        · obtain ⟨s3, s4⟩ := s1 h
          rw [s4]; exact ⟨s3, rfl, rfl⟩)
theorem k_val : SoundC Tryz.prog K_val.1 K_val.2 := SoundC.fam (fun x => manyL x.2.2) fun n => k_value n
end Cg

/-
  The library functions' contracts at this program, laid by the kit's own programs (lay-shelf, lay-plain). No condition.
-/
namespace Go.Proofs
open Go.Shelf
def Tryz.lays156_ren : Go.Shelf.Ren := ⟨fun | 156 => 111 | 165 => 118 | 166 => 119 | 169 => 120 | 240 => 121 | 241 => 122 | 276 => 123 | 277 => 124 | n => n, fun | 31 => 88 | 9 => 9 | 3 => 3 | 4 => 4 | 0 => 0 | 20 => 20 | 72 => 135 | 76 => 139 | 70 => 133 | 37 => 22 | 75 => 138 | 127 => 142 | 164 => 143 | 5 => 5 | 80 => 141 | n => n, fun | n => n⟩
theorem Tryz.lays156 : Go.Proofs.Lays.n156 Tryz.prog Tryz.lays156_ren := {
  mixed := by kernel_rfl
  f156 := Tryz.func111.trans (congrArg some (by kernel_rfl))
  f165 := Tryz.func118.trans (congrArg some (by kernel_rfl))
  f166 := Tryz.func119.trans (congrArg some (by kernel_rfl))
  f169 := Tryz.func120.trans (congrArg some (by kernel_rfl))
  f240 := Tryz.func121.trans (congrArg some (by kernel_rfl))
  f241 := Tryz.func122.trans (congrArg some (by kernel_rfl))
  f276 := Tryz.func123.trans (congrArg some (by kernel_rfl))
  f277 := Tryz.func124.trans (congrArg some (by kernel_rfl))
  t0 := Tryz.underlying0
  a0 := Tryz.isAgg0
  z0 := Tryz.sizeOf0
  v0 := Tryz.zeroValue0
  t3 := Tryz.underlying3
  a3 := Tryz.isAgg3
  z3 := Tryz.sizeOf3
  v3 := Tryz.zeroValue3
  t4 := Tryz.underlying4
  a4 := Tryz.isAgg4
  z4 := Tryz.sizeOf4
  v4 := Tryz.zeroValue4
  t9 := Tryz.underlying9
  a9 := Tryz.isAgg9
  z9 := Tryz.sizeOf9
  v9 := Tryz.zeroValue9
  t20 := Tryz.underlying20
  a20 := Tryz.isAgg20
  z20 := Tryz.sizeOf20
  v20 := Tryz.zeroValue20
  t31 := Tryz.underlying88
  a31 := Tryz.isAgg88
  z31 := Tryz.sizeOf88
  v31 := Tryz.zeroValue88
  t37 := Tryz.underlying22
  a37 := Tryz.isAgg22
  z37 := Tryz.sizeOf22
  v37 := Tryz.zeroValue22
  t70 := Tryz.underlying133
  a70 := Tryz.isAgg133
  z70 := Tryz.sizeOf133
  v70 := Tryz.zeroValue133
  t72 := Tryz.underlying135
  a72 := Tryz.isAgg135
  z72 := Tryz.sizeOf135
  v72 := Tryz.zeroValue135
  t75 := Tryz.underlying138
  a75 := Tryz.isAgg138
  z75 := Tryz.sizeOf138
  v75 := Tryz.zeroValue138
  t76 := Tryz.underlying139
  a76 := Tryz.isAgg139
  z76 := Tryz.sizeOf139
  v76 := Tryz.zeroValue139
  t127 := Tryz.underlying142
  a127 := Tryz.isAgg142
  z127 := Tryz.sizeOf142
  v127 := Tryz.zeroValue142
  t164 := Tryz.underlying143
  a164 := Tryz.isAgg143
  z164 := Tryz.sizeOf143
  v164 := Tryz.zeroValue143 }
theorem Tryz.Builder_Extra_156 : Builder.Extra Tryz.prog Tryz.lays156_ren := {
  sizeBuilder := by kernel_rfl
  liesBuilder := by kernel_rfl
  t5 := Tryz.underlying5
  a5 := Tryz.isAgg5
  z5 := Tryz.sizeOf5
  v5 := Tryz.zeroValue5
  infoByte := by kernel_rfl
  cellsByte := by kernel_rfl
  sizeByte := by kernel_rfl
  neB5 := by decide }
open Go.RowKit in
theorem Tryz.strings_Join_none (a : Option Addr) (c : Nat) (sep : ByteArray) (w : World) :
    Calls Tryz.prog 111 #[.slice a 0 c, .string sep] w fun e w' => e = .returned (.string ⟨#[]⟩) ∧ w' = w := Any.strings_Join_none Tryz.lays156 Tryz.Builder_Extra_156 a c sep w
open Go.RowKit in
theorem Tryz.strings_Join (bk o c : Nat) (xs : List ByteArray) (sep : ByteArray) (w : World) (hcells : ∀ (j : Nat) x, xs[j]? = some x → w.cell? ⟨bk, o + j, none⟩ = some (.string x)) (hbk : bk < w.heap.size) (hN : xs.length ≤ 140737488355328) (hcap : xs.length ≤ c) (hlen : (Lib.join (xs.map (·.data.toList)) sep.data.toList).length ≤ 140737488355328) :
    Calls Tryz.prog 111 #[.slice (some ⟨bk, o, none⟩) xs.length c, .string sep] w fun e w' => e = .returned (.string ⟨(Lib.join (xs.map (·.data.toList)) sep.data.toList).toArray⟩) ∧ Below w.heap.size w w' := Any.strings_Join Tryz.lays156 Tryz.Builder_Extra_156 bk o c xs sep w hcells hbk hN hcap hlen
end Go.Proofs

/-
  The library's contracts: joined texts. No condition.
-/
set_option linter.unusedVariables false
set_option linter.unusedSimpArgs false
namespace Pl
open Go
theorem interL_eq (sep : List UInt8) : ∀ xs : List (List UInt8), Go.Lib.join xs sep = interL sep xs
  | [] => rfl
  | [x] => by simp [Go.Lib.join, List.intercalate, interL]
  | x :: y :: r => by
    have := interL_eq sep (y :: r)
    simp only [Go.Lib.join, List.intercalate, List.intersperse_cons_cons, List.flatten_cons] at this ⊢
    rw [interL, ← this]; simp
end Pl
namespace Cg
open Go Go.Proofs Pl
theorem Ext.ofBelow {w w' : World} (h : Go.RowKit.Below w.heap.size w w') : Ext w w' := ⟨h.os, h.tape, h.output, h.size, h.block⟩
theorem k_Join : SoundC Tryz.prog K_Join.1 K_Join.2 := ⟨callable_of (by kernel_rfl), fun x hx S w vals hin hrel => by
  obtain ⟨xs, sep⟩ := x
  obtain ⟨h1, h2⟩ : xs.length ≤ 140737488355328 ∧ (joinS xs sep).size ≤ 140737488355328 := hx
  obtain ⟨y0, r0, rfl, ha, y1, r1, rfl, hb, hc⟩ := hrel
  cases hc
  obtain ⟨a, cap, rfl, hcap, ha⟩ := ha
  have hb : y1 = .string sep := hb
  subst hb
  have hj : (⟨(Go.Lib.join (xs.map (·.data.toList)) sep.data.toList).toArray⟩ : ByteArray) = joinS xs sep := by
    rw [interL_eq]; rfl
  rcases ha with h0 | ⟨b, off, rfl, hS, c, T, fr, hheap, hcells⟩
  · have e : xs = [] := List.length_eq_zero_iff.1 h0
    subst e
    exact (Tryz.strings_Join_none a cap sep w).mono fun e w' ⟨he, hw⟩ => by
      subst hw
      exact ⟨_, S, he, Ext.refl _, fun _ h => h, fun _ h => .inl h, hin, rfl⟩
  · refine (Tryz.strings_Join b off cap xs sep w (fun j x hj => ?_) (hin b hS) h1 hcap (by
      have : (joinS xs sep).size = (Go.Lib.join (xs.map (·.data.toList)) sep.data.toList).length := by rw [← hj]; simp [ByteArray.size]
      omega)).mono fun e w' ⟨he, hw⟩ => ?_
    · obtain ⟨hlt, e⟩ := List.getElem?_eq_some_iff.1 hj
      obtain ⟨y, h3, h4⟩ := hcells j hlt 0 (by decide)
      have h4' : RelI S w (.v (.string (xs.getD j ByteArray.empty))) y := h4
      rw [RelI] at h4'
      have h5 : y = .string (xs.getD j ByteArray.empty) := h4'.1
      rw [h5] at h3
      simp only [Nat.mul_one, Nat.add_zero] at h3
      simp only [World.cell?, hheap, h3]
      simp [← e, hlt]
    · rw [hj] at he
      exact ⟨_, S, he, Ext.ofBelow hw, fun _ h => h, fun _ h => .inl h, fun b hb => Nat.lt_of_lt_of_le (hin b hb) hw.size, rfl⟩⟩
end Cg

/-
  The codes' contracts: valid atoms. No condition.
-/
set_option linter.unusedVariables false
set_option linter.unusedSimpArgs false
set_option maxRecDepth 100000
set_option maxHeartbeats 1000000
namespace Pl
open Go Cg
theorem textBs_map : ∀ l : List Tm, textBs l = l.map textB
  | [] => rfl
  | t :: ts => by simp only [textBs, List.map_cons, textBs_map ts]
theorem interL_snoc {sep t : List UInt8} : ∀ {ts : List (List UInt8)}, ts ≠ [] → interL sep (ts ++ [t]) = interL sep ts ++ sep ++ t
  | [], h => absurd rfl h
  | [x], _ => by simp [interL]
  | x :: y :: r, _ => by
    have := interL_snoc (sep := sep) (t := t) (ts := y :: r) (by simp)
    simp only [List.cons_append] at this ⊢
    simp only [interL, this, List.append_assoc]
theorem interL_len (sep : List UInt8) (h1 : sep.length = 1) : ∀ ts : List (List UInt8), (interL sep ts).length ≤ sumN List.length ts + ts.length - 1
  | [] => by simp [interL]
  | [x] => by simp [interL, sumN]
  | x :: y :: r => by
    have := interL_len sep h1 (y :: r)
    simp only [interL, List.length_append, sumN, List.length_cons] at this ⊢
    omega
theorem textB_mk (v : ByteArray) (ks : List Tm) : textB (.mk v ks) = if ks = [] then bl' v else spellB (bl' v) (textBs ks) ++ [41] := by
  rw [textB]
  cases ks with
  | nil => rfl
  | cons k r => simp [spellB, textBs]
theorem spellB_step {v : List UInt8} {l : List Tm} {k : Nat} (h : k < l.length) : spellB v (textBs (l.take (k + 1))) = (spellB v (textBs (l.take k)) ++ [if k = 0 then 40 else 44]) ++ textB (l.getD k dT) := by
  rw [take_getD dT h, textBs_map, textBs_map, List.map_append]
  unfold spellB
  by_cases h0 : k = 0
  · subst h0; simp [interL]
  · have hne : (l.take k).map textB ≠ [] := by
      intro e
      have := congrArg List.length e
      rw [List.length_map, List.length_take, List.length_nil] at this
      omega
    have h2 : ((l.take k).map textB).isEmpty = false := by cases hh : (l.take k).map textB with
      | nil => exact absurd hh hne
      | cons _ _ => rfl
    have h3 : ((l.take k).map textB ++ [l.getD k dT].map textB).isEmpty = false := by cases hh : (l.take k).map textB with
      | nil => exact absurd hh hne
      | cons _ _ => rfl
    rw [h2, h3, if_neg h0]
    simp only [List.map_cons, List.map_nil, Bool.false_eq_true, if_false]
    rw [interL_snoc hne]; simp only [List.append_assoc]
mutual
theorem textB_len : ∀ t : Tm, (textB t).length ≤ 2 * costT t
  | .mk v ks => by
    have h := textBs_len ks
    have hl := interL_len [44] rfl (textBs ks)
    have hm : (textBs ks).length = ks.length := by rw [textBs_map]; simp
    rw [textB_mk]
    rw [costT]
    have e : (bl' v).length = v.size := rfl
    by_cases h0 : ks = []
    · rw [if_pos h0]; omega
    · rw [if_neg h0]
      have hp : 0 < ks.length := by cases ks with
        | nil => exact absurd rfl h0
        | cons _ _ => simp
      have hq : (textBs ks).isEmpty = false := by cases hh : textBs ks with
        | nil => rw [hh] at hm; simp at hm; omega
        | cons _ _ => rfl
      unfold spellB
      rw [hq]
      simp only [Bool.false_eq_true, if_false, List.length_append, List.length_singleton]
      omega
theorem textBs_len : ∀ l : List Tm, sumN List.length (textBs l) ≤ 2 * costTs l
  | [] => by simp [textBs, sumN]
  | t :: ts => by
    have h1 := textB_len t
    have h2 := textBs_len ts
    simp only [textBs, sumN, costTs]
    omega
end
theorem spellB_len (v : List UInt8) (l : List Tm) (k : Nat) : (spellB v (textBs (l.take k))).length ≤ v.length + 2 * costTs l + l.length + 1 := by
  have h := textBs_len l
  have e : textBs (l.take k) = (textBs l).take k := by rw [textBs_map, textBs_map, List.map_take]
  have hl := interL_len [44] rfl (textBs (l.take k))
  have hs := sumN_take_le List.length (textBs l) k
  have hm : (textBs (l.take k)).length ≤ l.length := by rw [textBs_map]; simp; omega
  rw [e] at hl hm ⊢
  unfold spellB
  split
  · omega
  · simp only [List.length_append, List.length_singleton]; omega
theorem textL_join (l : List Tm) : joinS (textL l) ⟨#[44]⟩ = mkB (interL [44] (textBs l)) := by
  unfold joinS textL
  rw [textBs_map, List.map_map]
  rfl
@[simp] theorem mkB_list (l : List UInt8) : (mkB l).data.toList = l := rfl
@[simp] theorem mkB_size (l : List UInt8) : (mkB l).size = l.length := rfl
end Pl
namespace Cg
open Go Go.Proofs Pl
theorem k_l4Text (n : Nat) : SoundC Tryz.prog (K_l4Text n).1 (K_l4Text n).2 := by
  induction n with
  | zero => exact sound_of hm CtxOK.nil (fun _ => []) (by kernel_rfl) fun x h => absurd h.2 (Nat.not_lt_zero _)
  | succ n ih => exact sound_of hm (CtxOK.nil.and (K := K_l4Text n) ih) (fun x => A_l4Text x.1 x.2) (by kernel_rfl) fun (x : TP) hl => (by
      have ht : SmT (.mk x.1 x.2) := hl.1
      have hn : manyL x.2 < n + 1 := hl.2
      clear hl
      rw [← vc_l4Text n x]
      obtain ⟨a, b⟩ := x
      dsimp only at *
      simp [-List.getD_eq_getElem?_getD, -List.mem_cons, -Bool.forall_bool, -Bool.exists_bool, and_assoc, peta, tl_inj, ex_1, ex_2, ex_3, ex_4, ex_5, ex_6, ex_7, ex_8, ex_9, ey_2, ey_3, ey_4, ey_5, ey_6, ey_7, ey_8, ey_9]
      have k1 := (SmT.kids ht).len
      have hc : a.size + b.length + costTs b ≤ 1048576 := by have h : costT (.mk a b) ≤ 1048576 := ht; rw [costT] at h; exact h
      have hb : (bl' a).length = a.size := rfl
      have hsz : ∀ k, (spell a (b.take k)).size ≤ 2097153 * 2 := fun k => by
        have := spellB_len (bl' a) b k
        show (spellB (bl' a) (textBs (b.take k))).length ≤ _
        omega
      have ht1 : ∀ t ∈ b, (textT t).size ≤ 2097152 := fun t h => by
        have h1 := textB_len t
        have h2 : costT t ≤ 1048576 := (SmT.kids ht).mem h
        show (textB t).length ≤ _
        omega
      have key : ∀ (k : Nat) (c : UInt8), k < b.length → c = (if k = 0 then 40 else 44) →
          ({ data := { toList := (spell a (List.take k b)).data.toList ++ c :: (textT (b.getD k dT)).data.toList } } : ByteArray) = spell a (b.take (k + 1)) := fun k c hk hc => by
        show mkB _ = mkB _
        rw [spellB_step hk, ← hc]
        congr 1
        show spellB (bl' a) (textBs (b.take k)) ++ c :: textB (b.getD k dT) = _
        simp
      have sz : ∀ (l : List UInt8) (c : UInt8), (ByteArray.mk ⟨l ++ [c]⟩).size = l.length + 1 := fun l c => by
        show (l ++ [c]).length = _
        simp
      refine ⟨⟨0, by simp, by show a = mkB _; rfl, rfl⟩, fun k hk => ⟨fun hlt => ⟨fun h0 => ?_, fun h0 => ?_⟩, fun hge => ⟨fun h0 => ?_, fun h0 => ?_⟩⟩⟩
      · have h1 := hsz k
        have h2 := ht1 _ (getD_mem dT hlt)
        refine ⟨by omega, hlt, (SmT.kids ht).mem (getD_mem dT hlt), by have := manyL_kids (getD_mem dT hlt); omega, ?_, k + 1, hlt, by omega, key k 40 hlt (by rw [if_pos h0]), wrap_small (by omega) (by omega)⟩
        rw [sz]
        have h3 : (spell a (b.take k)).data.toList.length = (spell a (b.take k)).size := rfl
        omega
      · have h1 := hsz k
        have h2 := ht1 _ (getD_mem dT hlt)
        refine ⟨by omega, hlt, (SmT.kids ht).mem (getD_mem dT hlt), by have := manyL_kids (getD_mem dT hlt); omega, ?_, k + 1, hlt, by omega, key k 44 hlt (by rw [if_neg h0]), wrap_small (by omega) (by omega)⟩
        rw [sz]
        have h3 : (spell a (b.take k)).data.toList.length = (spell a (b.take k)).size := rfl
        omega
      · have h1 := hsz k
        refine ⟨by omega, ?_⟩
        show mkB _ = mkB _
        rw [textB_mk, if_neg (by intro e; rw [e] at h0; simp at h0), List.take_of_length_le (by omega)]
        rfl
      · show mkB _ = mkB _
        rw [textB_mk, if_pos h0, h0, List.take_nil]
        rfl)
theorem k_lText : SoundC Tryz.prog K_lText.1 K_lText.2 := SoundC.fam (fun x => manyL x.2) fun n => k_l4Text n
theorem k_termText (n : Nat) : SoundC Tryz.prog (K_termText n).1 (K_termText n).2 := by
  induction n with
  | zero => exact sound_of hm CtxOK.nil (fun _ => []) (by kernel_rfl) fun x h => absurd h.2 (Nat.not_lt_zero _)
  | succ n ih => exact sound_of hm ((CtxOK.nil.and k_Join).and (K := K_termText n) ih) (fun x => A_termText x.1 x.2) (by kernel_rfl) fun (x : TP) hl => (by
      have ht : SmT (.mk x.1 x.2) := hl.1
      have hn : manyL x.2 < n + 1 := hl.2
      clear hl
      rw [← vc_termText n x]
      obtain ⟨a, b⟩ := x
      dsimp only at *
      simp [-List.getD_eq_getElem?_getD, -List.mem_cons, -Bool.forall_bool, -Bool.exists_bool, and_assoc, peta, tl_inj, ex_1, ex_2, ex_3, ex_4, ex_5, ex_6, ex_7, ex_8, ex_9, ey_2, ey_3, ey_4, ey_5, ey_6, ey_7, ey_8, ey_9]
      have k1 := (SmT.kids ht).len
      have hc : a.size + b.length + costTs b ≤ 1048576 := by have h : costT (.mk a b) ≤ 1048576 := ht; rw [costT] at h; exact h
      have hll : ∀ k, (textL (b.take k)).length ≤ b.length := fun k => by unfold textL; simp; omega
      refine ⟨fun h0 => ?_, fun h0 => ⟨⟨0, by simp, h0, rfl, rfl, rfl⟩, fun k hk _ => ⟨fun hlt => ?_, fun hge => ?_⟩⟩⟩
      · show a = mkB _
        rw [textB_mk, if_pos h0]; rfl
      · have hs1 : textL (b.take (k + 1)) = textL (b.take k) ++ [textT (b.getD k dT)] := by
          unfold textL; rw [take_getD dT hlt]; simp
        have h1 := hll k
        refine ⟨hlt, (SmT.kids ht).mem (getD_mem dT hlt), by have := manyL_kids (getD_mem dT hlt); omega, by omega, k + 1, hlt, h0, by omega, by rw [hs1]; simp, wrap_small (by omega) (by omega), ?_⟩
        rw [hs1]; exact strs_push
      · rw [List.take_of_length_le (by omega), textL_join]
        have hb : (bl' a).length = a.size := rfl
        have hsum := textBs_len b
        have hl := interL_len [44] rfl (textBs b)
        have hm : (textBs b).length = b.length := by rw [textBs_map]; simp
        have hlb : (textL b).length = b.length := by unfold textL; simp
        have sz : ∀ l : List UInt8, (ByteArray.mk ⟨l⟩).size = l.length := fun l => rfl
        have ha : a.data.toList.length = a.size := rfl
        simp only [mkB_list, mkB_size, sz, List.length_append, List.length_cons, List.length_nil]
        refine ⟨by show (a.size : Int) + 1 ≤ _; omega, by omega, by omega, by omega, by omega, ?_⟩
        show mkB _ = mkB _
        rw [textB_mk, if_neg h0]
        have hq : (textBs b).isEmpty = false := by cases hh : textBs b with
          | nil => rw [hh] at hm; simp at hm; exact absurd (List.length_eq_zero_iff.1 hm.symm) h0
          | cons _ _ => rfl
        unfold spellB
        rw [hq]
        simp [bl'])
theorem k_tText : SoundC Tryz.prog K_tText.1 K_tText.2 := SoundC.fam (fun x => manyL x.2) fun n => k_termText n
theorem k_l6None : SoundC Tryz.prog K_l6None.1 K_l6None.2 := sound_of hm CtxOK.nil (fun _ => []) (by kernel_rfl) fun (x : TP) hl => (by
  rw [← vc_l6None x]
  obtain ⟨a, b⟩ := x
  dsimp only at *
  simp [-List.getD_eq_getElem?_getD, -List.mem_cons, -Bool.forall_bool, -Bool.exists_bool, and_assoc, peta, tl_inj, ex_1, ex_2, ex_3, ex_4, ex_5, ex_6, ex_7, ex_8, ex_9, ey_2, ey_3, ey_4, ey_5, ey_6, ey_7, ey_8, ey_9]
  unfold noneT
  have e : a.toList = [] ↔ a = ByteArray.empty := by
    rw [← tl_inj (b := ByteArray.empty)]
    have : ByteArray.empty.toList = [] := by rw [ByteArray.toList_eq]; rfl
    rw [this]
  refine ⟨fun h => ?_, fun h => ?_⟩
  · rw [decide_eq_true (e.1 h), Bool.true_and, Bool.beq_eq_decide_eq]
    congr 1
    simp only [eq_iff_iff, List.length_eq_zero_iff, Int.natCast_eq_zero]
  · rw [decide_eq_false (fun h2 => h (e.2 h2))]; rfl)
theorem k_isNone : SoundC Tryz.prog K_isNone.1 K_isNone.2 := sound_of hm CtxOK.nil (fun _ => []) (by kernel_rfl) fun (x : TP) hl => (by
  rw [← vc_isNone x]
  obtain ⟨a, b⟩ := x
  dsimp only at *
  simp [-List.getD_eq_getElem?_getD, -List.mem_cons, -Bool.forall_bool, -Bool.exists_bool, and_assoc, peta, tl_inj, ex_1, ex_2, ex_3, ex_4, ex_5, ex_6, ex_7, ex_8, ex_9, ey_2, ey_3, ey_4, ey_5, ey_6, ey_7, ey_8, ey_9]
  unfold noneT
  have e : a.toList = [] ↔ a = ByteArray.empty := by
    rw [← tl_inj (b := ByteArray.empty)]
    have : ByteArray.empty.toList = [] := by rw [ByteArray.toList_eq]; rfl
    rw [this]
  refine ⟨fun h => ?_, fun h => ?_⟩
  · rw [decide_eq_true (e.1 h), Bool.true_and, Bool.beq_eq_decide_eq]
    congr 1
    simp only [eq_iff_iff, List.length_eq_zero_iff, Int.natCast_eq_zero]
  · rw [decide_eq_false (fun h2 => h (e.2 h2))]; rfl)
theorem num_step {nums : List Tm} {times : List Int} {k : Nat} (h1 : k < nums.length) (h2 : k < times.length) (he : numOk none nums times = numOk (prevN nums k) (nums.drop k) (times.drop k)) :
    (right (nums.getD k dT) = false → numOk none nums times = false) ∧ (timeOk (times.getD k 0) = false → numOk none nums times = false) ∧ (above (prevN nums k) (nums.getD k dT) = false → numOk none nums times = false) ∧
    (right (nums.getD k dT) = true → timeOk (times.getD k 0) = true → above (prevN nums k) (nums.getD k dT) = true → numOk none nums times = numOk (prevN nums (k + 1)) (nums.drop (k + 1)) (times.drop (k + 1))) := by
  rw [drop_get dT h1, drop_get 0 h2] at he
  simp only [numOk] at he
  refine ⟨fun h => by rw [he, h]; rfl, fun h => by rw [he, h]; simp, fun h => by rw [he, h]; simp, fun a1 a2 a3 => ?_⟩
  rw [he, a1, a2, a3]
  simp [prevN, -List.getD_eq_getElem?_getD]
theorem num_end {p : Option Tm} {nums : List Tm} {times : List Int} {k : Nat} (h1 : nums.length ≤ k) : numOk p (nums.drop k) (times.drop k) = true := by
  rw [drop_end (by omega)]; cases times.drop k <;> rfl
theorem numOk_right : ∀ {nums : List Tm} {times : List Int} {p : Option Tm}, nums.length = times.length → numOk p nums times = true → ∀ t ∈ nums, right t = true
  | [], _, _, _, _, t, h => by cases h
  | x :: nums, [], _, hl, _, _, _ => by simp at hl
  | x :: nums, n :: times, p, hl, h, t, ht => by
    simp only [numOk, Bool.and_eq_true] at h
    rcases List.mem_cons.1 ht with e | e
    · subst e; exact h.1.1.1
    · exact numOk_right (by simpa using hl) h.2 t e
theorem head_iff (kind : Int) (a b : TP) (nums : List Tm) (times : List Int) (bound : Int) (strict : Bool) : sumHead (kind, a, b, nums, times, bound, strict) = true ↔ noneT a = true ∧ noneT b = true ∧ nums.length = times.length ∧ 1 ≤ nums.length ∧ nums.length ≤ 4 ∧ -1000 ≤ bound ∧ bound ≤ 1000 := by
  simp only [sumHead, Bool.and_eq_true, decide_eq_true_eq, and_assoc]
theorem above_prev {nums : List Tm} {k : Nat} (h : 0 < k) : above (prevN nums k) (nums.getD k dT) = Op.bytesLess (textT (nums.getD (k - 1) dT)).toList (textT (nums.getD k dT)).toList := by
  unfold prevN; rw [if_neg (by omega)]; rfl
theorem above_none {nums : List Tm} {k : Nat} (h : k = 0) : above (prevN nums k) (nums.getD k dT) = true := by
  unfold prevN; rw [if_pos h]; rfl
theorem timeOk_iff {n : Int} : timeOk n = true ↔ n ≠ 0 ∧ -50 ≤ n ∧ n ≤ 50 := by
  simp only [timeOk, Bool.and_eq_true, decide_eq_true_eq, and_assoc]
theorem timeOk_no {n : Int} (h : ¬ (n ≠ 0 ∧ -50 ≤ n ∧ n ≤ 50)) : timeOk n = false := by
  cases e : timeOk n with
  | false => rfl
  | true => exact absurd (timeOk_iff.1 e) h

theorem k_l6Sum : SoundC Tryz.prog K_l6Sum.1 K_l6Sum.2 := sound_of hm (((CtxOK.nil.and k_lText).and k_l4Right).and k_l6None) (fun x => A_l6Sum x) (by kernel_rfl) fun (x : Atm) hl => (by
  have hs : SmA x := hl
  clear hl
  rw [← vc_l6Sum x]
  obtain ⟨kind, ⟨a, b⟩, ⟨c, d⟩, nums, times, bound, strict⟩ := x
  dsimp only at *
  simp [-List.getD_eq_getElem?_getD, -List.mem_cons, -Bool.forall_bool, -Bool.exists_bool, and_assoc, peta, tl_inj, ex_1, ex_2, ex_3, ex_4, ex_5, ex_6, ex_7, ex_8, ex_9, ey_2, ey_3, ey_4, ey_5, ey_6, ey_7, ey_8, ey_9]
  obtain ⟨_, _, q3, q4⟩ : SmT (.mk a b) ∧ SmT (.mk c d) ∧ SmTs nums ∧ times.length ≤ 1048576 := SmA.parts hs
  have q5 := q3.len
  have hd := head_iff kind (a, b) (c, d) nums times bound strict
  generalize hX : ((kind, (a, b), (c, d), nums, times, bound, strict) : Atm) = X at *
  have eN : sumRight X = (sumHead X && numOk none nums times) := by subst hX; rfl
  clear hs
  have noH : (sumHead X = true → False) → sumRight X = false := fun h => by
    rw [eN]
    cases e : sumHead X with
    | false => rfl
    | true => exact (h e).elim
  have noN : numOk none nums times = false → sumRight X = false := fun h => by rw [eN, h]; simp
  refine ⟨fun g1 => noH fun h => (by rw [(hd.1 h).1] at g1; cases g1), fun g1 => ⟨fun g2 => noH fun h => (by rw [(hd.1 h).2.1] at g2; cases g2), fun g2 => ⟨fun g3 => noH fun h => (by have := hd.1 h; omega), fun g3 => ⟨fun g4 => noH fun h => (by have := hd.1 h; omega), fun g4 => ⟨fun g5 => noH fun h => (by have := hd.1 h; omega), fun g5 => ⟨fun g6 => noH fun h => (by have := hd.1 h; omega), fun g6 => ⟨fun g7 => noH fun h => (by have := hd.1 h; omega), fun g7 => ?_⟩⟩⟩⟩⟩⟩⟩
  have g3' : nums.length = times.length := by omega
  have hh : sumHead X = true := hd.2 ⟨g1, g2, by omega, by omega, by omega, g6, g7⟩
  refine ⟨hh, ⟨0, by simp, by simp [prevN], rfl⟩, fun k _ hk he => ⟨fun hlt => ?_, fun hge => ?_⟩⟩
  · obtain ⟨e1, e2, e3, e4⟩ := num_step hlt (by omega) he
    refine ⟨by omega, hlt, q3.mem (getD_mem dT hlt), fun h => noN (e1 h), fun r1 => ⟨fun h => noN (e2 (timeOk_no (by omega))), fun r2 => ⟨fun h => noN (e2 (timeOk_no (by omega))), fun r3 => ⟨fun h => noN (e2 (timeOk_no (by omega))), fun r4 => ⟨fun hp => ?_, fun hz => ⟨hh, k + 1, hlt, e4 r1 (timeOk_iff.2 ⟨r2, r3, r4⟩) (above_none hz), by omega, wrap_small (by omega) (by omega)⟩⟩⟩⟩⟩⟩
    rw [wrap_small (x := (k : Int) - 1) (by omega) (by omega)]
    have e : ((k : Int) - 1).toNat = k - 1 := by omega
    rw [e]
    have hab := above_prev (nums := nums) hp
    exact ⟨by omega, by omega, by omega, q3.mem (getD_mem dT (by omega)), hlt, q3.mem (getD_mem dT hlt), fun h => noN (e3 (by rw [hab]; exact h)), fun h => ⟨hh, k + 1, hlt, e4 r1 (timeOk_iff.2 ⟨r2, r3, r4⟩) (by rw [hab]; exact h), by omega, wrap_small (by omega) (by omega)⟩⟩
  · rw [eN, hh, he, num_end hge]; rfl)
theorem k_l6Right : SoundC Tryz.prog K_l6Right.1 K_l6Right.2 := sound_of hm ((CtxOK.nil.and k_l4Right).and k_l6Sum) (fun _ => []) (by kernel_rfl) fun (x : Atm) hl => (by
  have hs : SmA x := hl
  clear hl
  rw [← vc_l6Right x]
  obtain ⟨kind, ⟨a, b⟩, ⟨c, d⟩, nums, times, bound, strict⟩ := x
  dsimp only at *
  simp [-List.getD_eq_getElem?_getD, -List.mem_cons, -Bool.forall_bool, -Bool.exists_bool, and_assoc, peta, tl_inj, ex_1, ex_2, ex_3, ex_4, ex_5, ex_6, ex_7, ex_8, ex_9, ey_2, ey_3, ey_4, ey_5, ey_6, ey_7, ey_8, ey_9]
  obtain ⟨q1, q2, _, _⟩ := SmA.parts hs
  have e2 : kind = 2 → atomRight (kind, (a, b), (c, d), nums, times, bound, strict) = sumRight (kind, (a, b), (c, d), nums, times, bound, strict) := fun h => by unfold atomRight; rw [if_pos h]
  have e1 : ¬ kind = 2 → atomRight (kind, (a, b), (c, d), nums, times, bound, strict) = (decide (kind = 1) && (right (.mk a b) && right (.mk c d) && decide (nums = []) && decide (times = []) && decide (bound = 0) && !strict)) := fun h => by unfold atomRight; rw [if_neg h]; rfl
  refine ⟨fun h => ⟨hs, (e2 h).symm⟩, fun h => ⟨fun g => ⟨q1, fun g1 => ⟨q2, fun g2 => ⟨fun g3 => ⟨fun g4 => ⟨fun g5 => ?_, fun g5 => ?_⟩, fun g4 => ?_⟩, fun g3 => ?_⟩, fun g2 => ?_⟩, fun g1 => ?_⟩, fun g => ?_⟩⟩
  · rw [e1 h, g1, g2, decide_eq_true g, decide_eq_true g3, decide_eq_true g4, decide_eq_true g5]; simp
  · rw [e1 h, decide_eq_false g5]; simp
  · rw [e1 h, decide_eq_false g4]; simp
  · rw [e1 h, decide_eq_false g3]; simp
  · rw [e1 h, g2]; simp
  · rw [e1 h, g1]; simp
  · rw [e1 h, decide_eq_false g]; simp)
theorem k_Atomok : SoundC Tryz.prog K_Atomok.1 K_Atomok.2 := sound_of hm ((((CtxOK.nil.and k_tText).and k_within).and k_isNone).and k_isTerm) (fun x => A_Atomok x) (by kernel_rfl) fun (x : Atm) hl => (by
  have hs : SmA x := hl
  clear hl
  rw [← vc_Atomok x]
  obtain ⟨kind, ⟨a, b⟩, ⟨c, d⟩, nums, times, bound, strict⟩ := x
  dsimp only at *
  simp [-List.getD_eq_getElem?_getD, -List.mem_cons, -Bool.forall_bool, -Bool.exists_bool, and_assoc, peta, tl_inj, ex_1, ex_2, ex_3, ex_4, ex_5, ex_6, ex_7, ex_8, ex_9, ey_2, ey_3, ey_4, ey_5, ey_6, ey_7, ey_8, ey_9]
  obtain ⟨q1, q2, q3, q4⟩ : SmT (.mk a b) ∧ SmT (.mk c d) ∧ SmTs nums ∧ times.length ≤ 1048576 := SmA.parts hs
  have q5 := q3.len
  have hd := head_iff kind (a, b) (c, d) nums times bound strict
  have e1 : ¬ kind = 2 → atomRight (kind, (a, b), (c, d), nums, times, bound, strict) = (decide (kind = 1) && (right (.mk a b) && right (.mk c d) && decide (nums = []) && decide (times = []) && decide (bound = 0) && !strict)) := fun h => by unfold atomRight; rw [if_neg h]; rfl
  have e2 : kind = 2 → atomRight (kind, (a, b), (c, d), nums, times, bound, strict) = (sumHead (kind, (a, b), (c, d), nums, times, bound, strict) && numOk none nums times) := fun h => by unfold atomRight; rw [if_pos h]; rfl
  generalize hX : ((kind, (a, b), (c, d), nums, times, bound, strict) : Atm) = X at *
  clear hs
  refine ⟨fun g => ?_, fun g => ⟨fun g' => ?_, fun g' => by rw [e1 g', decide_eq_false g]; simp⟩⟩
  · have h : ¬ kind = 2 := by omega
    refine ⟨q1, fun g1 => ⟨q2, fun g2 => ⟨fun g3 => ⟨fun g4 => ⟨fun g5 => ?_, fun g5 => ?_⟩, fun g4 => ?_⟩, fun g3 => ?_⟩, fun g2 => ?_⟩, fun g1 => ?_⟩
    · rw [e1 h, g1, g2, decide_eq_true g, decide_eq_true g3, decide_eq_true g4, decide_eq_true g5]; simp
    · rw [e1 h, decide_eq_false g5]; simp
    · rw [e1 h, decide_eq_false g4]; simp
    · rw [e1 h, decide_eq_false g3]; simp
    · rw [e1 h, g2]; simp
    · rw [e1 h, g1]; simp
  · have eN := e2 g'
    have noH : (sumHead X = true → False) → atomRight X = false := fun h => by
      rw [eN]
      cases e : sumHead X with
      | false => rfl
      | true => exact (h e).elim
    have noN : numOk none nums times = false → atomRight X = false := fun h => by rw [eN, h]; simp
    have win : ∀ {x lo hi : Int}, withinI x lo hi = false ↔ ¬ (lo ≤ x ∧ x ≤ hi) := fun {x lo hi} => by
      simp only [withinI, Bool.and_eq_false_iff, decide_eq_false_iff_not]; omega
    have wiy : ∀ {x lo hi : Int}, withinI x lo hi = true ↔ (lo ≤ x ∧ x ≤ hi) := fun {x lo hi} => by
      simp only [withinI, Bool.and_eq_true, decide_eq_true_eq]
    refine ⟨fun g1 => noH fun h => (by rw [(hd.1 h).1] at g1; cases g1), fun g1 => ⟨fun g2 => noH fun h => (by rw [(hd.1 h).2.1] at g2; cases g2), fun g2 => ⟨fun g3 => noH fun h => (by have := hd.1 h; have := win.1 g3; omega), fun g3 => ⟨fun g4 => noH fun h => (by have := hd.1 h; omega), fun g4 => ⟨fun g5 => noH fun h => (by have := hd.1 h; have := win.1 g5; omega), fun g5 => ?_⟩⟩⟩⟩⟩
    have g3' := wiy.1 g3
    have g5' := wiy.1 g5
    have hh : sumHead X = true := hd.2 ⟨g1, g2, by omega, by omega, by omega, g5'.1, g5'.2⟩
    refine ⟨g', hh, ⟨0, by simp, by simp [prevN], rfl⟩, fun k _ _ hk he => ⟨fun hlt => ?_, fun hge => ?_⟩⟩
    · obtain ⟨f1, f2, f3, f4⟩ := num_step hlt (by omega) he
      refine ⟨hlt, q3.mem (getD_mem dT hlt), fun h => noN (f1 h), fun r1 => ⟨by omega, fun h => noN (f2 (timeOk_no (by have := win.1 h; omega))), fun r2 => ⟨by omega, fun h => noN (f2 (timeOk_no (by omega))), fun r3 => ⟨fun hp => ?_, fun hz => ⟨g', hh, k + 1, hlt, f4 r1 (timeOk_iff.2 ⟨r3, wiy.1 r2⟩) (above_none hz), by omega, wrap_small (by omega) (by omega)⟩⟩⟩⟩⟩
      rw [wrap_small (x := (k : Int) - 1) (by omega) (by omega)]
      have e : ((k : Int) - 1).toNat = k - 1 := by omega
      rw [e]
      have hab := above_prev (nums := nums) hp
      exact ⟨by omega, by omega, by omega, q3.mem (getD_mem dT (by omega)), q3.mem (getD_mem dT hlt), fun h => noN (f3 (by rw [hab]; exact h)), fun h => ⟨g', hh, k + 1, hlt, f4 r1 (timeOk_iff.2 ⟨r3, wiy.1 r2⟩) (by rw [hab]; exact h), by omega, wrap_small (by omega) (by omega)⟩⟩
    · rw [eN, hh, he, num_end hge]; rfl)
theorem right_eq {kind : Int} {a b : TP} {nums : List Tm} {times : List Int} {bound : Int} {strict : Bool} (h : atomRight (kind, a, b, nums, times, bound, strict) = true) :
    (kind = 1 → right (.mk a.1 a.2) = true ∧ right (.mk b.1 b.2) = true) ∧ (¬ kind = 1 → ∀ t ∈ nums, right t = true) := by
  unfold atomRight at h
  split at h
  · rename_i h2
    have h2 : kind = 2 := h2
    refine ⟨fun h1 => by omega, fun _ => ?_⟩
    simp only [sumRight, Bool.and_eq_true] at h
    exact numOk_right ((head_iff kind a b nums times bound strict).1 h.1).2.2.1 h.2
  · simp only [eqRight, Bool.and_eq_true, decide_eq_true_eq] at h
    exact ⟨fun _ => ⟨h.2.1.1.1.1.1, h.2.1.1.1.1.2⟩, fun h1 => absurd h.1 h1⟩
theorem isNum_iff {s : Sig} {t : Tm} (hs : sigOk s = true) (hr : right t = true) : isNum s t = true ↔ (sortT s t).getD (-1) = 1 := by
  unfold isNum
  rw [ts_yes hs hr]
  cases sortT s t with
  | none => simp
  | some n => simp
theorem eqSorted_iff {s : Sig} {a b : Tm} (hs : sigOk s = true) (h1 : right a = true) (h2 : right b = true) : eqSorted s a b = (decide (0 ≤ (sortT s a).getD (-1)) && decide ((sortT s a).getD (-1) = (sortT s b).getD (-1))) := by
  unfold eqSorted
  rw [ts_yes hs h1, ts_yes hs h2]
  cases ea : sortT s a with
  | none => simp
  | some n =>
    have hn := sortT_sort hs ea
    cases eb : sortT s b with
    | none =>
      simp only [Option.isSome_some, Option.isSome_none, Bool.and_false, Bool.false_and, Option.getD_some, Option.getD_none]
      rw [decide_eq_false (by omega : ¬ n = -1)]; simp
    | some m =>
      simp only [Option.isSome_some, Bool.true_and, Option.getD_some]
      rw [decide_eq_true (by omega : 0 ≤ n)]; simp

theorem k_sAtomOk : SoundC Tryz.prog K_sAtomOk.1 K_sAtomOk.2 := sound_of hm (((CtxOK.nil.and k_lOf).and k_l6Right).and k_sSigOk) (fun x => A_sAtomOk x.1 x.2) (by kernel_rfl) fun (x : Sig × Atm) hl => (by
  have hg : SmG x.1 := hl.1
  have hs : SmA x.2 := hl.2
  clear hl
  rw [← vc_sAtomOk x]
  obtain ⟨s, kind, ⟨a, b⟩, ⟨c, d⟩, nums, times, bound, strict⟩ := x
  dsimp only at *
  simp [-List.getD_eq_getElem?_getD, -List.mem_cons, -Bool.forall_bool, -Bool.exists_bool, and_assoc, peta, tl_inj, ex_1, ex_2, ex_3, ex_4, ex_5, ex_6, ex_7, ex_8, ex_9, ey_2, ey_3, ey_4, ey_5, ey_6, ey_7, ey_8, ey_9]
  obtain ⟨q1, q2, q3, q4⟩ : SmT (.mk a b) ∧ SmT (.mk c d) ∧ SmTs nums ∧ times.length ≤ 1048576 := SmA.parts hs
  have q5 := q3.len
  have e0 : atomOk s (kind, (a, b), (c, d), nums, times, bound, strict) = (sigOk s && atomRight (kind, (a, b), (c, d), nums, times, bound, strict) && if kind = 1 then eqSorted s (.mk a b) (.mk c d) else nums.all (isNum s)) := rfl
  have hr := right_eq (kind := kind) (a := (a, b)) (b := (c, d)) (nums := nums) (times := times) (bound := bound) (strict := strict)
  generalize hX : ((kind, (a, b), (c, d), nums, times, bound, strict) : Atm) = X at *
  refine ⟨hg, fun h => by rw [e0, h]; rfl, fun h => ⟨hs, fun h2 => by rw [e0, h2]; simp, fun h2 => ⟨fun g => ⟨h, hg, q1, fun g1 => ⟨h, hg, q2, ?_⟩, fun g1 => ?_⟩, fun g => ⟨h, h2, g, ⟨0, by simp, by simp, rfl⟩, fun k _ _ _ hk he => ⟨fun hlt => ?_, fun hge => ?_⟩⟩⟩⟩⟩
  · rw [e0, h, h2, if_pos g, eqSorted_iff h ((hr h2).1 g).1 ((hr h2).1 g).2, decide_eq_true g1, Bool.beq_eq_decide_eq]; simp
  · have hra : right (.mk a b) = true := ((hr h2).1 g).1
    have hrb : right (.mk c d) = true := ((hr h2).1 g).2
    rw [e0, h, h2, if_pos g, eqSorted_iff h hra hrb, decide_eq_false (by omega : ¬ 0 ≤ (sortT s (Tree.mk a b)).getD (-1))]; simp
  · have hi := isNum_iff h ((hr h2).2 g _ (getD_mem dT hlt))
    rw [drop_get dT hlt, List.all_cons] at he
    refine ⟨hlt, h, hg, q3.mem (getD_mem dT hlt), fun h3 => ?_, fun h3 => ⟨h, h2, g, k + 1, hlt, ?_, by omega, wrap_small (by omega) (by omega)⟩⟩
    · have : isNum s (nums.getD k dT) = false := by cases e : isNum s (nums.getD k dT) with
        | false => rfl
        | true => exact absurd (hi.1 e) h3
      rw [e0, if_neg g, he, this]; simp
    · rw [he, hi.2 h3]; rfl
  · rw [drop_end (by omega)] at he
    rw [e0, h, h2, if_neg g, he]; rfl)
theorem k_isNumber : SoundC Tryz.prog K_isNumber.1 K_isNumber.2 := sound_of hm (CtxOK.nil.and k_iTermSort) (fun _ => []) (by kernel_rfl) fun (x : Sig × TP) hl => (by
  have hg : SmG x.1 := hl.1
  have ht : SmT (.mk x.2.1 x.2.2) := hl.2
  clear hl
  rw [← vc_isNumber x]
  obtain ⟨s, a, b⟩ := x
  dsimp only at *
  simp [-List.getD_eq_getElem?_getD, -List.mem_cons, -Bool.forall_bool, -Bool.exists_bool, and_assoc, peta, tl_inj, ex_1, ex_2, ex_3, ex_4, ex_5, ex_6, ex_7, ex_8, ex_9, ey_2, ey_3, ey_4, ey_5, ey_6, ey_7, ey_8, ey_9]
  unfold isNum
  exact ⟨hg, ht, fun h => by rw [h, Bool.true_and, Bool.beq_eq_decide_eq], fun h => by rw [h]; rfl⟩)
theorem k_AtomOk1 : SoundC Tryz.prog K_AtomOk1.1 K_AtomOk1.2 := sound_of hm (CtxOK.nil.and k_isNumber) (fun _ => []) (by kernel_rfl) fun (x : TP × Sig) hl => (by
  have hg : SmG x.2 := hl.1
  have ht : SmT (.mk x.1.1 x.1.2) := hl.2
  clear hl
  rw [← vc_AtomOk1 x]
  obtain ⟨⟨a, b⟩, s⟩ := x
  dsimp only at *
  simp [-List.getD_eq_getElem?_getD, -List.mem_cons, -Bool.forall_bool, -Bool.exists_bool, and_assoc, peta, tl_inj, ex_1, ex_2, ex_3, ex_4, ex_5, ex_6, ex_7, ex_8, ex_9, ey_2, ey_3, ey_4, ey_5, ey_6, ey_7, ey_8, ey_9]
  exact ⟨hg, ht⟩)
theorem k_IndexTerm : SoundC Tryz.prog K_IndexTerm.1 K_IndexTerm.2 := sound_of hm (CtxOK.nil.and k_AtomOk1) (fun x => A_IndexTerm x.1 x.2) (by kernel_rfl) fun (x : List Tm × Sig) hl => (by
  have hg : SmG x.2 := hl.2
  have ht : SmTs x.1 := hl.1
  clear hl
  rw [← vc_IndexTerm x]
  obtain ⟨l, s⟩ := x
  dsimp only at *
  simp [-List.getD_eq_getElem?_getD, -List.mem_cons, -Bool.forall_bool, -Bool.exists_bool, and_assoc, peta, tl_inj, ex_1, ex_2, ex_3, ex_4, ex_5, ex_6, ex_7, ex_8, ex_9, ey_2, ey_3, ey_4, ey_5, ey_6, ey_7, ey_8, ey_9]
  have hlen := ht.len
  exact ⟨⟨0, by simp, idx_init _ _, rfl⟩, fun k hk he => ⟨fun hlt => ⟨hlt, hg, ht.mem (getD_mem dT hlt), fun h => (idx_step dT _ hlt he).1 (by simp [h, -List.getD_eq_getElem?_getD]), fun h => ⟨k + 1, hlt, (idx_step dT _ hlt he).2 (by simp [h, -List.getD_eq_getElem?_getD]), by omega, wrap_small (by omega) (by omega)⟩⟩, fun hge => idx_end _ hge he⟩⟩)
theorem k_ContainsTerm : SoundC Tryz.prog K_ContainsTerm.1 K_ContainsTerm.2 := sound_of hm (CtxOK.nil.and k_IndexTerm) (fun _ => []) (by kernel_rfl) fun (x : List Tm × Sig) hl => (by
  have hg : SmG x.2 := hl.2
  have ht : SmTs x.1 := hl.1
  clear hl
  rw [← vc_ContainsTerm x]
  obtain ⟨l, s⟩ := x
  dsimp only at *
  simp only [idx_any]
  simp [-List.getD_eq_getElem?_getD, -List.mem_cons, -Bool.forall_bool, -Bool.exists_bool, and_assoc, peta, tl_inj, ex_1, ex_2, ex_3, ex_4, ex_5, ex_6, ex_7, ex_8, ex_9, ey_2, ey_3, ey_4, ey_5, ey_6, ey_7, ey_8, ey_9]
  exact ⟨ht, hg⟩)
theorem k_Eqsorted : SoundC Tryz.prog K_Eqsorted.1 K_Eqsorted.2 := sound_of hm (CtxOK.nil.and k_iTermSort) (fun _ => []) (by kernel_rfl) fun (x : TP × TP × Sig) hl => (by
  obtain ⟨h1, h2, h3⟩ : SmT (.mk x.1.1 x.1.2) ∧ SmT (.mk x.2.1.1 x.2.1.2) ∧ SmG x.2.2 := hl
  rw [← vc_Eqsorted x]
  obtain ⟨⟨a, b⟩, ⟨c, d⟩, s⟩ := x
  dsimp only at *
  simp [-List.getD_eq_getElem?_getD, -List.mem_cons, -Bool.forall_bool, -Bool.exists_bool, and_assoc, peta, tl_inj, ex_1, ex_2, ex_3, ex_4, ex_5, ex_6, ex_7, ex_8, ex_9, ey_2, ey_3, ey_4, ey_5, ey_6, ey_7, ey_8, ey_9]
  unfold eqSorted
  exact ⟨h3, h1, h3, h2, fun g1 => ⟨fun g2 => by rw [g1, g2, Bool.beq_eq_decide_eq]; rfl, fun g2 => by rw [g2]; simp⟩, fun g1 => by rw [g1]; rfl⟩)
theorem k_iAtomOk : SoundC Tryz.prog K_iAtomOk.1 K_iAtomOk.2 := sound_of hm ((((CtxOK.nil.and k_ContainsTerm).and k_Eqsorted).and k_Atomok).and k_iSigOk) (fun _ => []) (by kernel_rfl) fun (x : Sig × Atm) hl => (by
  have hg : SmG x.1 := hl.1
  have hs : SmA x.2 := hl.2
  clear hl
  rw [← vc_iAtomOk x]
  obtain ⟨s, kind, ⟨a, b⟩, ⟨c, d⟩, nums, times, bound, strict⟩ := x
  dsimp only at *
  simp [-List.getD_eq_getElem?_getD, -List.mem_cons, -Bool.forall_bool, -Bool.exists_bool, and_assoc, peta, tl_inj, ex_1, ex_2, ex_3, ex_4, ex_5, ex_6, ex_7, ex_8, ex_9, ey_2, ey_3, ey_4, ey_5, ey_6, ey_7, ey_8, ey_9]
  obtain ⟨q1, q2, q3, q4⟩ : SmT (.mk a b) ∧ SmT (.mk c d) ∧ SmTs nums ∧ times.length ≤ 1048576 := SmA.parts hs
  have e0 : atomOk s (kind, (a, b), (c, d), nums, times, bound, strict) = (sigOk s && atomRight (kind, (a, b), (c, d), nums, times, bound, strict) && if kind = 1 then eqSorted s (.mk a b) (.mk c d) else nums.all (isNum s)) := rfl
  generalize hX : ((kind, (a, b), (c, d), nums, times, bound, strict) : Atm) = X at *
  refine ⟨hg, fun h => by rw [e0, h]; rfl, fun h => ⟨hs, fun h2 => by rw [e0, h2]; simp, fun h2 => ⟨fun g => ⟨q1, q2, hg, ?_⟩, fun g => ⟨q3, hg, ?_⟩⟩⟩⟩
  · rw [e0, h, h2, if_pos g]; rfl
  · rw [e0, h, h2, if_neg g, all_any]; simp)
end Cg

/-
  The codes' contracts: the truth of literals in models. No condition.
-/
set_option linter.unusedVariables false
set_option linter.unusedSimpArgs false
set_option maxRecDepth 100000
set_option maxHeartbeats 1000000
namespace Pl
open Go Cg
theorem least_ok {n d : Int} {x : Rt} (h : least n d = some x) : ratOk x = true := by
  unfold least at h
  split at h
  · cases h; assumption
  · cases h
theorem ratAdd_ok {a b x : Rt} (h : ratAdd a b = some x) : ratOk x = true := by
  unfold ratAdd at h
  split at h
  · exact least_ok h
  · cases h
theorem ratOk_whole {n : Int} (h1 : -1000000000 ≤ n) (h2 : n ≤ 1000000000) : ratOk (n, 1) = true := by
  rw [ratOk_iff]; exact ⟨h1, h2, by simp only; omega, by simp only; omega, by simp⟩
theorem below_iff {v : Rt} {b : Int} {strict : Bool} (hv : ratOk v = true) (h1 : -1000 ≤ b) (h2 : b ≤ 1000) : under v b strict = (ratLess v (b, 1) || (!strict && decide (v = (b, 1)))) := by
  have hb : ratOk (b, 1) = true := ratOk_whole (by omega) (by omega)
  unfold under
  cases strict with
  | true => simp
  | false =>
    simp only [Bool.false_eq_true, if_false, Bool.not_false, Bool.true_and]
    by_cases e : v = (b, 1)
    · rw [decide_eq_true e, Bool.or_true, e]
      have : ratLess (b, 1) (b, 1) = false := by unfold ratLess; simp
      rw [this]; rfl
    · rw [decide_eq_false e, Bool.or_false]
      have hne : ¬ v.1 * 1 = b * v.2 := fun h => e (rat_eq hv hb h)
      have l1 := ratLess_iff hv hb
      have l2 := ratLess_iff hb hv
      simp only at l1 l2
      cases e1 : ratLess v (b, 1) with
      | true =>
        have := l1.1 e1
        cases e2 : ratLess (b, 1) v with
        | false => rfl
        | true => have := l2.1 e2; omega
      | false =>
        cases e2 : ratLess (b, 1) v with
        | true => rfl
        | false =>
          exfalso
          have h3 : ¬ v.1 * 1 < b * v.2 := fun h => by rw [l1.2 h] at e1; cases e1
          have h4 : ¬ b * v.2 < v.1 * 1 := fun h => by rw [l2.2 h] at e2; cases e2
          omega
theorem sumS_ok (m : Mdl) : ∀ (ts : List Tm) (ns : List Int) (s : Rt), ratOk s = true → (sumS m s ts ns).2 = true → ratOk (sumS m s ts ns).1 = true
  | [], _, s, hs, _ => by rw [sumS]; exact hs; simp
  | t :: ts, [], s, hs, _ => by rw [sumS]; exact hs; simp
  | t :: ts, n :: ns, s, hs, h => by
    rw [sumS] at h ⊢
    cases e1 : ratMul (n, 1) (valT m t) with
    | none => rw [e1] at h; cases h
    | some x =>
      rw [e1] at h
      simp only at h ⊢
      cases e2 : ratAdd s x with
      | none => rw [e2] at h; cases h
      | some y =>
        rw [e2] at h
        simp only at h ⊢
        exact sumS_ok m ts ns y (ratAdd_ok e2) h
theorem sumS_end {m : Mdl} {s : Rt} {ts : List Tm} {ns : List Int} {k : Nat} (h : ts.length ≤ k) : sumS m s (ts.drop k) (ns.drop k) = (s, true) := by
  rw [drop_end (by omega)]; rw [sumS]; simp
theorem sumS_cons {m : Mdl} {s : Rt} {t : Tm} {ts : List Tm} {n : Int} {ns : List Int} :
    (ratMul (n, 1) (valT m t) = none → sumS m s (t :: ts) (n :: ns) = (s, false)) ∧
    ((ratMul (n, 1) (valT m t)).isSome = true → (ratAdd s (ratV (ratMul (n, 1) (valT m t))) = none → sumS m s (t :: ts) (n :: ns) = ((0, 0), false)) ∧
      ((ratAdd s (ratV (ratMul (n, 1) (valT m t)))).isSome = true → sumS m s (t :: ts) (n :: ns) = sumS m (ratV (ratAdd s (ratV (ratMul (n, 1) (valT m t))))) ts ns)) := by
  rw [sumS]
  cases e1 : ratMul (n, 1) (valT m t) with
  | none => exact ⟨fun _ => rfl, fun h => (by cases h)⟩
  | some x =>
    refine ⟨fun h => (by cases h), fun _ => ?_⟩
    simp only [ratV, Option.getD_some]
    cases e2 : ratAdd s x with
    | none => exact ⟨fun _ => rfl, fun h => by cases h⟩
    | some y => exact ⟨fun h => (by cases h), fun _ => rfl⟩
theorem sumS_step {m : Mdl} {s : Rt} {ts : List Tm} {ns : List Int} {k : Nat} (h1 : k < ts.length) (h2 : k < ns.length) :
    (ratMul (ns.getD k 0, 1) (valT m (ts.getD k dT)) = none → sumS m s (ts.drop k) (ns.drop k) = (s, false)) ∧
    ((ratMul (ns.getD k 0, 1) (valT m (ts.getD k dT))).isSome = true → (ratAdd s (ratV (ratMul (ns.getD k 0, 1) (valT m (ts.getD k dT)))) = none → sumS m s (ts.drop k) (ns.drop k) = ((0, 0), false)) ∧
      ((ratAdd s (ratV (ratMul (ns.getD k 0, 1) (valT m (ts.getD k dT))))).isSome = true → sumS m s (ts.drop k) (ns.drop k) = sumS m (ratV (ratAdd s (ratV (ratMul (ns.getD k 0, 1) (valT m (ts.getD k dT)))))) (ts.drop (k + 1)) (ns.drop (k + 1)))) := by
  rw [drop_get dT h1, drop_get 0 h2]
  exact sumS_cons
theorem ratAdd_okV {a b : Rt} (h : (ratAdd a b).isSome = true) : ratOk (ratV (ratAdd a b)) = true := by
  cases e : ratAdd a b with
  | none => rw [e] at h; cases h
  | some x => exact ratAdd_ok e
theorem plus_cases (s : Rt) (n : Int) (v : Rt) : (plusV s n v = none → ratMul (n, 1) v = none ∨ ((ratMul (n, 1) v).isSome = true ∧ ratAdd s (ratV (ratMul (n, 1) v)) = none)) ∧
    ((plusV s n v).isSome = true → (ratMul (n, 1) v).isSome = true ∧ (ratAdd s (ratV (ratMul (n, 1) v))).isSome = true ∧ plusV s n v = ratAdd s (ratV (ratMul (n, 1) v))) := by
  unfold plusV
  cases ratMul (n, 1) v with
  | none => exact ⟨fun _ => .inl rfl, fun h => by cases h⟩
  | some x => exact ⟨fun h => .inr ⟨rfl, h⟩, fun h => ⟨rfl, h, rfl⟩⟩
theorem rat_beq (p q : Rt) : (p.1 == q.1 && p.2 == q.2) = decide (p = q) := by
  rw [Bool.eq_iff_iff]
  simp only [Bool.and_eq_true, beq_iff_eq, decide_eq_true_eq]
  exact ⟨fun h => Prod.ext h.1 h.2, fun h => by rw [h]; exact ⟨rfl, rfl⟩⟩
theorem ml_no {s : Sig} {m : Mdl} {x : Atm} {no : Bool} (h : modelOk s m = false ∨ atomOk s x = false) : modelLit s m (x, no) = (false, false) := by
  unfold modelLit
  rw [if_pos]
  rcases h with h | h <;> simp [h]
theorem ml_yes {s : Sig} {m : Mdl} {x : Atm} {no : Bool} (h1 : modelOk s m = true) (h2 : atomOk s x = true) : modelLit s m (x, no) = if (atomV m x).2 = true then ((atomV m x).1 != no, true) else (false, false) := by
  unfold modelLit
  rw [if_neg]
  simp [h1, h2]
theorem atomOk_sum {s : Sig} {kind : Int} {a b : TP} {nums : List Tm} {times : List Int} {bound : Int} {strict : Bool} (h : atomOk s (kind, a, b, nums, times, bound, strict) = true) (hk : ¬ kind = 1) : nums.length = times.length ∧ -1000 ≤ bound ∧ bound ≤ 1000 := by
  simp only [atomOk, Bool.and_eq_true] at h
  have hr := h.1.2
  unfold atomRight at hr
  split at hr
  · simp only [sumRight, Bool.and_eq_true] at hr
    obtain ⟨_, _, q1, _, _, q2, q3⟩ := (head_iff kind a b nums times bound strict).1 hr.1
    exact ⟨q1, q2, q3⟩
  · simp only [Bool.and_eq_true, decide_eq_true_eq] at hr
    exact absurd hr.1 hk
theorem modelOk_mL {s : Sig} {m : Mdl} (h : modelOk s m = true) : mL none m = true := by
  simp only [modelOk, mRight, Bool.and_eq_true] at h; exact h.1.2.1
theorem prod_le {p q : Int} (h1 : -1000000000 ≤ p) (h2 : p ≤ 1000000000) (h3 : 1 ≤ q) (h4 : q ≤ 1000000000) : -1000000000000000000 ≤ p * q ∧ p * q ≤ 1000000000000000000 := by
  have u1 : p * q ≤ 1000000000 * q := Int.mul_le_mul_of_nonneg_right h2 (by omega)
  have u2 : -1000000000 * q ≤ p * q := Int.mul_le_mul_of_nonneg_right h1 (by omega)
  omega
theorem prod_le2 {p q : Int} (h1 : -1000000000 ≤ p) (h2 : p ≤ 1000000000) (h3 : -1000000000 ≤ q) (h4 : q ≤ 1000000000) : -1000000000000000000 ≤ p * q ∧ p * q ≤ 1000000000000000000 := by
  have e : (p * q).natAbs ≤ 1000000000 * 1000000000 := by
    rw [Int.natAbs_mul]; exact Nat.mul_le_mul (by omega) (by omega)
  omega
theorem prod_pos {p q : Int} (h1 : 1 ≤ p) (h3 : 1 ≤ q) : 1 ≤ p * q := by
  have := Int.mul_le_mul h1 h3 (by decide) (by omega)
  omega
theorem least_div {n d : Int} (hn : n.natAbs ≤ 2000000000000000000) (h1 : 1 ≤ d) (h2 : d ≤ 1000000000000000000) :
    Nat.gcd n.natAbs d.natAbs ≠ 0 ∧ IntKind.i64.wrap (n.tdiv (Nat.gcd n.natAbs d.natAbs)) = n.tdiv (Nat.gcd n.natAbs d.natAbs) ∧ IntKind.i64.wrap (d.tdiv (Nat.gcd n.natAbs d.natAbs)) = d.tdiv (Nat.gcd n.natAbs d.natAbs) := by
  have hg : Nat.gcd n.natAbs d.natAbs ≠ 0 := fun h => by
    have := Nat.eq_zero_of_gcd_eq_zero_right h
    omega
  have e1 : (n.tdiv (Nat.gcd n.natAbs d.natAbs)).natAbs ≤ n.natAbs := by rw [Int.natAbs_tdiv]; exact Nat.div_le_self _ _
  have e2 : (d.tdiv (Nat.gcd n.natAbs d.natAbs)).natAbs ≤ d.natAbs := by rw [Int.natAbs_tdiv]; exact Nat.div_le_self _ _
  exact ⟨hg, wrap_small (by omega) (by omega), wrap_small (by omega) (by omega)⟩
end Pl
namespace Cg
open Go Go.Proofs Pl
theorem k_l1Least : SoundC Tryz.prog K_l1Least.1 K_l1Least.2 := sound_of hm ((CtxOK.nil.and k_sRatOk).and k_l1Gcd) (fun _ => []) (by kernel_rfl) fun (x : Int × Int) hl => (by
  obtain ⟨h1, h2, h3⟩ : x.1.natAbs ≤ 2000000000000000000 ∧ 1 ≤ x.2 ∧ x.2 ≤ 1000000000000000000 := hl
  rw [← vc_l1Least x]
  obtain ⟨n, d⟩ := x
  dsimp only at *
  obtain ⟨g1, g2, g3⟩ := least_div h1 h2 h3
  have fin : ∃ x_2 : Rt, ((IntKind.i64.wrap (n.tdiv (Nat.gcd n.natAbs d.natAbs)) = x_2.fst ∧ IntKind.i64.wrap (d.tdiv (Nat.gcd n.natAbs d.natAbs)) = x_2.snd ∧ True) ∧ True) ∧ True ∧
      condP (!ratOk x_2) (((0 : Int) = (ratV (least n d)).fst ∧ (0 : Int) = (ratV (least n d)).snd ∧ True) ∧ false = (least n d).isSome ∧ True)
        ((IntKind.i64.wrap (n.tdiv (Nat.gcd n.natAbs d.natAbs)) = (ratV (least n d)).fst ∧ IntKind.i64.wrap (d.tdiv (Nat.gcd n.natAbs d.natAbs)) = (ratV (least n d)).snd ∧ True) ∧ true = (least n d).isSome ∧ True) := by
    refine ⟨(n.tdiv (Nat.gcd n.natAbs d.natAbs), d.tdiv (Nat.gcd n.natAbs d.natAbs)), ⟨⟨g2, g3, trivial⟩, trivial⟩, trivial, ?_⟩
    rw [g2, g3]
    unfold least
    cases e : ratOk (n.tdiv (Nat.gcd n.natAbs d.natAbs), d.tdiv (Nat.gcd n.natAbs d.natAbs)) <;> simp [condP, ratV]
  rw [condP_iff]
  simp only [decide_eq_true_eq, decide_eq_false_iff_not]
  refine ⟨fun hn => ⟨(n.natAbs, d.natAbs), ⟨by rw [wrap_small (by omega) (by omega)]; simp only; omega, by simp only; omega, trivial⟩, ⟨by simp only; omega, by simp only; omega⟩, by simp only; omega, by simp only; omega, fin⟩, fun hn => ⟨(n.natAbs, d.natAbs), ⟨by simp only; omega, by simp only; omega, trivial⟩, ⟨by simp only; omega, by simp only; omega⟩, by simp only; omega, by simp only; omega, fin⟩⟩)
theorem k_ratOf : SoundC Tryz.prog K_ratOf.1 K_ratOf.2 := sound_of hm ((CtxOK.nil.and k_iRatOk).and k_gcd) (fun _ => []) (by kernel_rfl) fun (x : Int × Int) hl => (by
  obtain ⟨h1, h2, h3⟩ : x.1.natAbs ≤ 2000000000000000000 ∧ 1 ≤ x.2 ∧ x.2 ≤ 1000000000000000000 := hl
  rw [← vc_ratOf x]
  obtain ⟨n, d⟩ := x
  dsimp only at *
  obtain ⟨g1, g2, g3⟩ := least_div h1 h2 h3
  rw [condP_iff]
  refine ⟨fun h => ?_, fun _ => ?_⟩
  · simp only [beq_iff_eq] at h; omega
  rw [condP_iff]
  refine ⟨fun h => ?_, fun _ => ?_⟩
  · simp only [decide_eq_true_eq] at h; omega
  refine ⟨(n, d), ⟨rfl, rfl, trivial⟩, ⟨by simp only; omega, by simp only; omega⟩, by simp only; omega, by simp only; omega, (n.tdiv (Nat.gcd n.natAbs d.natAbs), d.tdiv (Nat.gcd n.natAbs d.natAbs)), ⟨⟨g2, g3, trivial⟩, trivial⟩, trivial, ?_⟩
  simp only
  rw [g2, g3]
  unfold least
  cases e : ratOk (n.tdiv (Nat.gcd n.natAbs d.natAbs), d.tdiv (Nat.gcd n.natAbs d.natAbs)) <;> simp [condP, ratV])
theorem k_sRatAdd : SoundC Tryz.prog K_sRatAdd.1 K_sRatAdd.2 := sound_of hm ((CtxOK.nil.and k_l1Least).and k_sRatOk) (fun _ => []) (by kernel_rfl) fun (x : Rt × Rt) hl => (by
  rw [← vc_sRatAdd x]
  obtain ⟨⟨a, b⟩, c, d⟩ := x
  dsimp only at *
  simp [-List.getD_eq_getElem?_getD, -List.mem_cons, -Bool.forall_bool, -Bool.exists_bool, and_assoc, peta, tl_inj, ex_1, ex_2, ex_3, ex_4, ex_5, ex_6, ex_7, ex_8, ex_9, ey_2, ey_3, ey_4, ey_5, ey_6, ey_7, ey_8, ey_9]
  obtain ⟨e1, e2⟩ : (∀ h : ratOk (a, b) = false, ratAdd (a, b) (c, d) = none) ∧ (∀ h : ratOk (c, d) = false, ratAdd (a, b) (c, d) = none) := ⟨fun h => by unfold ratAdd; rw [h]; rfl, fun h => by unfold ratAdd; rw [h]; simp⟩
  refine ⟨fun h => by rw [e1 h]; exact ⟨rfl, rfl, rfl⟩, fun h => ⟨fun h2 => by rw [e2 h2]; exact ⟨rfl, rfl, rfl⟩, fun h2 => ?_⟩⟩
  obtain ⟨a1, a2, a3, a4, _⟩ := ratOk_iff.1 h
  obtain ⟨c1, c2, c3, c4, _⟩ := ratOk_iff.1 h2
  dsimp only at a1 a2 a3 a4 c1 c2 c3 c4
  have p1 := prod_le a1 a2 c3 c4
  have p2 := prod_le c1 c2 a3 a4
  have p3 := prod_le (by omega : -1000000000 ≤ b) a4 c3 c4
  have p4 := prod_pos a3 c3
  have e : ratAdd (a, b) (c, d) = least (a * d + c * b) (b * d) := by unfold ratAdd; rw [h, h2]; rfl
  rw [wrap_small (x := a * d) (by omega) (by omega), wrap_small (x := c * b) (by omega) (by omega), wrap_small (x := b * d) (by omega) (by omega), wrap_small (x := a * d + c * b) (by omega) (by omega), e]
  exact ⟨by omega, by omega, by omega, rfl, rfl, rfl⟩)
theorem k_iRatAdd : SoundC Tryz.prog K_iRatAdd.1 K_iRatAdd.2 := sound_of hm ((CtxOK.nil.and k_ratOf).and k_iRatOk) (fun _ => []) (by kernel_rfl) fun (x : Rt × Rt) hl => (by
  rw [← vc_iRatAdd x]
  obtain ⟨⟨a, b⟩, c, d⟩ := x
  dsimp only at *
  simp [-List.getD_eq_getElem?_getD, -List.mem_cons, -Bool.forall_bool, -Bool.exists_bool, and_assoc, peta, tl_inj, ex_1, ex_2, ex_3, ex_4, ex_5, ex_6, ex_7, ex_8, ex_9, ey_2, ey_3, ey_4, ey_5, ey_6, ey_7, ey_8, ey_9]
  obtain ⟨e1, e2⟩ : (∀ h : ratOk (a, b) = false, ratAdd (a, b) (c, d) = none) ∧ (∀ h : ratOk (c, d) = false, ratAdd (a, b) (c, d) = none) := ⟨fun h => by unfold ratAdd; rw [h]; rfl, fun h => by unfold ratAdd; rw [h]; simp⟩
  refine ⟨fun h => by rw [e1 h]; exact ⟨rfl, rfl, rfl⟩, fun h => ⟨fun h2 => by rw [e2 h2]; exact ⟨rfl, rfl, rfl⟩, fun h2 => ?_⟩⟩
  obtain ⟨a1, a2, a3, a4, _⟩ := ratOk_iff.1 h
  obtain ⟨c1, c2, c3, c4, _⟩ := ratOk_iff.1 h2
  dsimp only at a1 a2 a3 a4 c1 c2 c3 c4
  have p1 := prod_le a1 a2 c3 c4
  have p2 := prod_le c1 c2 a3 a4
  have p3 := prod_le (by omega : -1000000000 ≤ b) a4 c3 c4
  have p4 := prod_pos a3 c3
  have e : ratAdd (a, b) (c, d) = least (a * d + c * b) (b * d) := by unfold ratAdd; rw [h, h2]; rfl
  rw [wrap_small (x := a * d) (by omega) (by omega), wrap_small (x := c * b) (by omega) (by omega), wrap_small (x := b * d) (by omega) (by omega), wrap_small (x := a * d + c * b) (by omega) (by omega), e]
  exact ⟨by omega, by omega, by omega, rfl, rfl, rfl⟩)
theorem k_sRatMul : SoundC Tryz.prog K_sRatMul.1 K_sRatMul.2 := sound_of hm ((CtxOK.nil.and k_l1Least).and k_sRatOk) (fun _ => []) (by kernel_rfl) fun (x : Rt × Rt) hl => (by
  rw [← vc_sRatMul x]
  obtain ⟨⟨a, b⟩, c, d⟩ := x
  dsimp only at *
  simp [-List.getD_eq_getElem?_getD, -List.mem_cons, -Bool.forall_bool, -Bool.exists_bool, and_assoc, peta, tl_inj, ex_1, ex_2, ex_3, ex_4, ex_5, ex_6, ex_7, ex_8, ex_9, ey_2, ey_3, ey_4, ey_5, ey_6, ey_7, ey_8, ey_9]
  obtain ⟨e1, e2⟩ : (∀ h : ratOk (a, b) = false, ratMul (a, b) (c, d) = none) ∧ (∀ h : ratOk (c, d) = false, ratMul (a, b) (c, d) = none) := ⟨fun h => by unfold ratMul; rw [h]; rfl, fun h => by unfold ratMul; rw [h]; simp⟩
  refine ⟨fun h => by rw [e1 h]; exact ⟨rfl, rfl, rfl⟩, fun h => ⟨fun h2 => by rw [e2 h2]; exact ⟨rfl, rfl, rfl⟩, fun h2 => ?_⟩⟩
  obtain ⟨a1, a2, a3, a4, _⟩ := ratOk_iff.1 h
  obtain ⟨c1, c2, c3, c4, _⟩ := ratOk_iff.1 h2
  dsimp only at a1 a2 a3 a4 c1 c2 c3 c4
  have p1 := prod_le2 a1 a2 c1 c2
  have p3 := prod_le (by omega : -1000000000 ≤ b) a4 c3 c4
  have p4 := prod_pos a3 c3
  have e : ratMul (a, b) (c, d) = least (a * c) (b * d) := by unfold ratMul; rw [h, h2]; rfl
  rw [wrap_small (x := a * c) (by omega) (by omega), wrap_small (x := b * d) (by omega) (by omega), e]
  exact ⟨by omega, by omega, by omega, rfl, rfl, rfl⟩)
theorem k_iRatMul : SoundC Tryz.prog K_iRatMul.1 K_iRatMul.2 := sound_of hm ((CtxOK.nil.and k_ratOf).and k_iRatOk) (fun _ => []) (by kernel_rfl) fun (x : Rt × Rt) hl => (by
  rw [← vc_iRatMul x]
  obtain ⟨⟨a, b⟩, c, d⟩ := x
  dsimp only at *
  simp [-List.getD_eq_getElem?_getD, -List.mem_cons, -Bool.forall_bool, -Bool.exists_bool, and_assoc, peta, tl_inj, ex_1, ex_2, ex_3, ex_4, ex_5, ex_6, ex_7, ex_8, ex_9, ey_2, ey_3, ey_4, ey_5, ey_6, ey_7, ey_8, ey_9]
  obtain ⟨e1, e2⟩ : (∀ h : ratOk (a, b) = false, ratMul (a, b) (c, d) = none) ∧ (∀ h : ratOk (c, d) = false, ratMul (a, b) (c, d) = none) := ⟨fun h => by unfold ratMul; rw [h]; rfl, fun h => by unfold ratMul; rw [h]; simp⟩
  refine ⟨fun h => by rw [e1 h]; exact ⟨rfl, rfl, rfl⟩, fun h => ⟨fun h2 => by rw [e2 h2]; exact ⟨rfl, rfl, rfl⟩, fun h2 => ?_⟩⟩
  obtain ⟨a1, a2, a3, a4, _⟩ := ratOk_iff.1 h
  obtain ⟨c1, c2, c3, c4, _⟩ := ratOk_iff.1 h2
  dsimp only at a1 a2 a3 a4 c1 c2 c3 c4
  have p1 := prod_le2 a1 a2 c1 c2
  have p3 := prod_le (by omega : -1000000000 ≤ b) a4 c3 c4
  have p4 := prod_pos a3 c3
  have e : ratMul (a, b) (c, d) = least (a * c) (b * d) := by unfold ratMul; rw [h, h2]; rfl
  rw [wrap_small (x := a * c) (by omega) (by omega), wrap_small (x := b * d) (by omega) (by omega), e]
  exact ⟨by omega, by omega, by omega, rfl, rfl, rfl⟩)
theorem k_plus : SoundC Tryz.prog K_plus.1 K_plus.2 := sound_of hm (((CtxOK.nil.and k_iRatAdd).and k_iRatMul).and k_whole) (fun _ => []) (by kernel_rfl) fun (x : Rt × Int × Rt) hl => (by
  rw [← vc_plus x]
  obtain ⟨⟨a, b⟩, n, c, d⟩ := x
  dsimp only at *
  simp [-List.getD_eq_getElem?_getD, -List.mem_cons, -Bool.forall_bool, -Bool.exists_bool, and_assoc, peta, tl_inj, ex_1, ex_2, ex_3, ex_4, ex_5, ex_6, ex_7, ex_8, ex_9, ey_2, ey_3, ey_4, ey_5, ey_6, ey_7, ey_8, ey_9]
  unfold plusV
  cases ratMul (n, 1) (c, d) with
  | none => exact ⟨fun _ => ⟨rfl, rfl, rfl⟩, fun h => by cases h⟩
  | some x => exact ⟨fun h => (by cases h), fun _ => ⟨rfl, rfl, rfl⟩⟩)
theorem k_below : SoundC Tryz.prog K_below.1 K_below.2 := sound_of hm ((CtxOK.nil.and k_iRatLess).and k_whole) (fun _ => []) (by kernel_rfl) fun (x : Rt × Int × Bool) hl => (by
  rw [← vc_below x]
  obtain ⟨⟨a, b⟩, n, c⟩ := x
  dsimp only at *
  simp [-List.getD_eq_getElem?_getD, -List.mem_cons, -Bool.forall_bool, -Bool.exists_bool, and_assoc, peta, tl_inj, ex_1, ex_2, ex_3, ex_4, ex_5, ex_6, ex_7, ex_8, ex_9, ey_2, ey_3, ey_4, ey_5, ey_6, ey_7, ey_8, ey_9]
  unfold under
  exact ⟨fun h => by rw [if_pos h], fun h => by rw [h]; simp⟩)
theorem k_l7Sum : SoundC Tryz.prog K_l7Sum.1 K_l7Sum.2 := sound_of hm (((CtxOK.nil.and k_sRatAdd).and k_sRatMul).and k_lTm) (fun x => A_l7Sum x.1 x.2) (by kernel_rfl) fun (x : Mdl × Atm) hl => (by
  obtain ⟨h1, h2, h3⟩ : SmM x.1 ∧ SmA x.2 ∧ x.2.2.2.2.1.length = x.2.2.2.2.2.1.length := hl
  rw [← vc_l7Sum x]
  obtain ⟨m, kind, ⟨a, b⟩, ⟨c, d⟩, nums, times, bound, strict⟩ := x
  dsimp only at *
  simp [-List.getD_eq_getElem?_getD, -List.mem_cons, -Bool.forall_bool, -Bool.exists_bool, and_assoc, peta, tl_inj, ex_1, ex_2, ex_3, ex_4, ex_5, ex_6, ex_7, ex_8, ex_9, ey_2, ey_3, ey_4, ey_5, ey_6, ey_7, ey_8, ey_9]
  obtain ⟨q1, q2, q3, q4⟩ : SmT (.mk a b) ∧ SmT (.mk c d) ∧ SmTs nums ∧ times.length ≤ 1048576 := SmA.parts h2
  have q5 := q3.len
  refine ⟨⟨0, by simp, ratOk_one, by simp, rfl⟩, fun k u v hk hok he => ⟨fun hlt => ?_, fun hge => by rw [he, sumS_end hge]; exact ⟨rfl, rfl, rfl⟩⟩⟩
  obtain ⟨e1, e2⟩ := sumS_step (m := m) (s := (u, v)) hlt (by omega : k < times.length)
  refine ⟨by omega, hlt, h1, q3.mem (getD_mem dT hlt), fun h => by rw [he, e1 h]; exact ⟨rfl, rfl, rfl⟩, fun h => ⟨fun g => ?_, fun g => ⟨k + 1, hlt, ratAdd_okV g, by rw [he, (e2 h).2 g], by omega, wrap_small (by omega) (by omega)⟩⟩⟩
  rw [he, (e2 h).1 g, g]; exact ⟨rfl, rfl, rfl⟩)
theorem k_atomV : SoundC Tryz.prog K_atomV.1 K_atomV.2 := sound_of hm ((((CtxOK.nil.and k_below).and k_plus).and k_whole).and k_val) (fun x => A_atomV x.1 x.2) (by kernel_rfl) fun (x : Mdl × Atm) hl => (by
  obtain ⟨h0, h1, h2, h3⟩ : mL none x.1 = true ∧ SmM x.1 ∧ SmA x.2 ∧ (¬ x.2.1 = 1 → x.2.2.2.2.1.length = x.2.2.2.2.2.1.length) := hl
  rw [← vc_atomV x]
  obtain ⟨m, kind, ⟨a, b⟩, ⟨c, d⟩, nums, times, bound, strict⟩ := x
  dsimp only at *
  simp [-List.getD_eq_getElem?_getD, -List.mem_cons, -Bool.forall_bool, -Bool.exists_bool, and_assoc, peta, tl_inj, ex_1, ex_2, ex_3, ex_4, ex_5, ex_6, ex_7, ex_8, ex_9, ey_2, ey_3, ey_4, ey_5, ey_6, ey_7, ey_8, ey_9]
  obtain ⟨q1, q2, q3, q4⟩ : SmT (.mk a b) ∧ SmT (.mk c d) ∧ SmTs nums ∧ times.length ≤ 1048576 := SmA.parts h2
  have q5 := q3.len
  have e1 : kind = 1 → atomV m (kind, (a, b), (c, d), nums, times, bound, strict) = (decide (valT m (.mk a b) = valT m (.mk c d)), true) := fun h => by unfold atomV; rw [if_pos h]
  have e2 : ¬ kind = 1 → atomV m (kind, (a, b), (c, d), nums, times, bound, strict) = if (sumS m (0, 1) nums times).2 = true then (under (sumS m (0, 1) nums times).1 bound strict, true) else (false, false) := fun h => by unfold atomV; rw [if_neg h]
  refine ⟨fun h => ⟨h0, h1, q1, h0, h1, q2, by rw [e1 h]; exact rat_beq _ _, by rw [e1 h]⟩, fun h => ⟨h, ⟨0, by simp, ratOk_one, by simp, rfl⟩, fun k u v _ hk hok he => ⟨fun hlt => ?_, fun hge => by rw [e2 h, he, sumS_end hge]; exact ⟨rfl, rfl⟩⟩⟩⟩
  have hl3 := h3 h
  obtain ⟨s1, s2⟩ := sumS_step (m := m) (s := (u, v)) hlt (by omega : k < times.length)
  obtain ⟨p1, p2⟩ := plus_cases (u, v) (times.getD k 0) (valT m (nums.getD k dT))
  refine ⟨hlt, by omega, h0, h1, q3.mem (getD_mem dT hlt), fun g => ?_, fun g => ?_⟩
  · rcases p1 g with g1 | ⟨g1, g2⟩
    · rw [e2 h, he, s1 g1]; exact ⟨rfl, rfl⟩
    · rw [e2 h, he, (s2 g1).1 g2]; exact ⟨rfl, rfl⟩
  · obtain ⟨g1, g2, g3⟩ := p2 g
    rw [g3]
    exact ⟨h, k + 1, hlt, ratAdd_okV g2, by rw [he, (s2 g1).2 g2], by omega, wrap_small (by omega) (by omega)⟩)
theorem k_sModelLit : SoundC Tryz.prog K_sModelLit.1 K_sModelLit.2 := sound_of hm (((((CtxOK.nil.and k_sRatLess).and k_l7Sum).and k_lTm).and k_sAtomOk).and k_sModelOk) (fun _ => []) (by kernel_rfl) fun (x : Sig × Mdl × Ltr) hl => (by
  obtain ⟨h1, h2, h3⟩ : SmG x.1 ∧ SmM x.2.1 ∧ SmA x.2.2.1 := hl
  rw [← vc_sModelLit x]
  obtain ⟨s, m, ⟨kind, ⟨a, b⟩, ⟨c, d⟩, nums, times, bound, strict⟩, no⟩ := x
  dsimp only at *
  simp [-List.getD_eq_getElem?_getD, -List.mem_cons, -Bool.forall_bool, -Bool.exists_bool, and_assoc, peta, tl_inj, ex_1, ex_2, ex_3, ex_4, ex_5, ex_6, ex_7, ex_8, ex_9, ey_2, ey_3, ey_4, ey_5, ey_6, ey_7, ey_8, ey_9]
  obtain ⟨q1, q2, q3, q4⟩ : SmT (.mk a b) ∧ SmT (.mk c d) ∧ SmTs nums ∧ times.length ≤ 1048576 := SmA.parts h3
  have e1 : kind = 1 → atomV m (kind, (a, b), (c, d), nums, times, bound, strict) = (decide (valT m (.mk a b) = valT m (.mk c d)), true) := fun h => by unfold atomV; rw [if_pos h]
  have e2 : ¬ kind = 1 → atomV m (kind, (a, b), (c, d), nums, times, bound, strict) = if (sumS m (0, 1) nums times).2 = true then (under (sumS m (0, 1) nums times).1 bound strict, true) else (false, false) := fun h => by unfold atomV; rw [if_neg h]
  have hb : ∀ x y : Bool, (x == y) = !(x != y) := by decide
  refine ⟨h1, h2, fun g => by rw [ml_no (.inl g)]; exact ⟨rfl, rfl⟩, fun g => ⟨h1, h3, fun g2 => by rw [ml_no (.inr g2)]; exact ⟨rfl, rfl⟩, fun g2 => ⟨fun hk => ⟨h2, q1, h2, q2, ?_⟩, fun hk => ?_⟩⟩⟩
  · rw [ml_yes g g2, e1 hk, rat_beq]
    exact ⟨hb _ _, rfl⟩
  · obtain ⟨w1, w2, w3⟩ := atomOk_sum g2 hk
    refine ⟨h2, h3, w1, fun hs => ?_, fun hs => ?_⟩
    · rw [ml_yes g g2, e2 hk, hs]; exact ⟨rfl, rfl⟩
    · rw [ml_yes g g2, e2 hk, if_pos hs]
      have hok := sumS_ok m nums times (0, 1) ratOk_one hs
      have hu := below_iff (strict := strict) hok w2 w3
      simp only [if_true]
      rw [hu]
      refine ⟨fun hl => ?_, fun hl => ⟨fun hst => ?_, fun hst => ?_⟩⟩
      · rw [hl, Bool.true_or]; exact ⟨by cases no <;> rfl, trivial⟩
      · have hr := rat_beq (sumS m (0, 1) nums times).1 (bound, 1)
        simp only at hr
        rw [hl, hst, hr, Bool.false_or, Bool.not_false, Bool.true_and]; exact ⟨hb _ _, trivial⟩
      · rw [hl, hst]; exact ⟨by cases no <;> rfl, trivial⟩)
theorem k_iModelLit : SoundC Tryz.prog K_iModelLit.1 K_iModelLit.2 := sound_of hm (((CtxOK.nil.and k_atomV).and k_iAtomOk).and k_iModelOk) (fun _ => []) (by kernel_rfl) fun (x : Sig × Mdl × Ltr) hl => (by
  obtain ⟨h1, h2, h3⟩ : SmG x.1 ∧ SmM x.2.1 ∧ SmA x.2.2.1 := hl
  rw [← vc_iModelLit x]
  obtain ⟨s, m, ⟨kind, ⟨a, b⟩, ⟨c, d⟩, nums, times, bound, strict⟩, no⟩ := x
  dsimp only at *
  simp [-List.getD_eq_getElem?_getD, -List.mem_cons, -Bool.forall_bool, -Bool.exists_bool, and_assoc, peta, tl_inj, ex_1, ex_2, ex_3, ex_4, ex_5, ex_6, ex_7, ex_8, ex_9, ey_2, ey_3, ey_4, ey_5, ey_6, ey_7, ey_8, ey_9]
  have hb : ∀ x y : Bool, (x == y) = !(x != y) := by decide
  refine ⟨h1, h2, fun g => by rw [ml_no (.inl g)]; exact ⟨rfl, rfl⟩, fun g => ⟨h1, h3, fun g2 => by rw [ml_no (.inr g2)]; exact ⟨rfl, rfl⟩, fun g2 => ⟨modelOk_mL g, h2, h3, fun hk => (atomOk_sum g2 hk).1, fun hs => ?_, fun hs => ?_⟩⟩⟩
  · rw [ml_yes g g2, hs]; exact ⟨rfl, rfl⟩
  · rw [ml_yes g g2, if_pos hs]; exact ⟨hb _ _, rfl⟩)
end Cg

/-
  The codes' contracts: drawn words and models. No condition.
-/
set_option linter.unusedVariables false
set_option linter.unusedSimpArgs false
set_option maxRecDepth 100000
namespace Cg
open Go Go.Proofs Pl
theorem slit (v : ByteArray) (j : Nat) (hj : j < 1) : [st v].getD j .any = eS v j := by
  have : j = 0 := by omega
  subst this
  rfl
@[simp] theorem strs_lit3 {a b c : ByteArray} {m : List ByteArray} : Is (.lit 3 1 (rowsCell [[st a], [st b], [st c]])) (strs m) ↔ [a, b, c] = m := Is_lits (by decide) EncN.eS [a, b, c] m (fun v => [st v]) slit
@[simp] theorem strs_lit5 {a b c d e : ByteArray} {m : List ByteArray} : Is (.lit 5 1 (rowsCell [[st a], [st b], [st c], [st d], [st e]])) (strs m) ↔ [a, b, c, d, e] = m := Is_lits (by decide) EncN.eS [a, b, c, d, e] m (fun v => [st v]) slit
@[simp] theorem strs_lit4 {a b c d : ByteArray} {m : List ByteArray} : Is (.lit 4 1 (rowsCell [[st a], [st b], [st c], [st d]])) (strs m) ↔ [a, b, c, d] = m := Is_lits (by decide) EncN.eS [a, b, c, d] m (fun v => [st v]) slit
theorem k_of : SoundC Tryz.prog K_of.1 K_of.2 := sound_of hm (CtxOK.nil.and k_pick) (fun _ => []) (by kernel_rfl) fun ((b, p, l) : List Int × Int × List ByteArray) hb => (by
  obtain ⟨h1, h2, h3⟩ : Rd 1099511627776 b p ∧ l ≠ [] ∧ Sz l := hb
  rw [← vc_of b p l]
  simp [-List.getD_eq_getElem?_getD, -List.mem_cons, -Bool.forall_bool, -Bool.exists_bool, and_assoc, peta, tl_inj, ex_1, ex_2, ex_3, ex_4, ex_5, ex_6, ex_7, ex_8, ex_9, ey_2, ey_3, ey_4, ey_5, ey_6, ey_7, ey_8, ey_9]
  have h0 : 0 < l.length := List.length_pos_iff.2 h2
  refine ⟨h1, fun y hy _ => ?_⟩
  obtain ⟨h4, h5⟩ := hy (by omega)
  exact ⟨h4, h5, by omega, getD_mem _ (by omega)⟩)
theorem k_rat : SoundC Tryz.prog K_rat.1 K_rat.2 := sound_of hm (CtxOK.nil.and k_num) (fun _ => []) (by kernel_rfl) fun ((b, p) : List Int × Int) hb => (by
  replace hb : Rd 549755813888 b p := hb
  rw [← vc_rat b p]
  simp [-List.getD_eq_getElem?_getD, -List.mem_cons, -Bool.forall_bool, -Bool.exists_bool, and_assoc, peta, tl_inj, ex_1, ex_2, ex_3, ex_4, ex_5, ex_6, ex_7, ex_8, ex_9, ey_2, ey_3, ey_4, ey_5, ey_6, ey_7, ey_8, ey_9]
  have g3 := hb.2.2.1
  have g4 := hb.2.2.2
  exact ⟨hb.to (by omega) (by omega), fun y _ => ⟨hb.to (by omega) (by omega), fun z _ => by omega⟩⟩)
theorem k_RatOfP : SoundC Tryz.prog K_RatOfP.1 K_RatOfP.2 := sound_of hm ((CtxOK.nil.and k_l1Least).and k_l1Abs) (fun _ => []) (by kernel_rfl) fun ((n, d) : Int × Int) hb => (by
  obtain ⟨h1, h2, h3⟩ : n.natAbs ≤ 1000000000 ∧ 1 ≤ d ∧ d ≤ 1000000000 := hb
  rw [← vc_RatOfP n d]
  simp [-List.getD_eq_getElem?_getD, -List.mem_cons, -Bool.forall_bool, -Bool.exists_bool, and_assoc, peta, tl_inj, ex_1, ex_2, ex_3, ex_4, ex_5, ex_6, ex_7, ex_8, ex_9, ey_2, ey_3, ey_4, ey_5, ey_6, ey_7, ey_8, ey_9]
  have e1 : abs1 n ≤ 1000000000 := by unfold abs1; split <;> (try split) <;> omega
  have e2 : abs1 d ≤ 1000000000 := by unfold abs1; split <;> (try split) <;> omega
  exact ⟨fun h => absurd h (by omega), fun _ => ⟨fun h => absurd h (by omega), fun _ => ⟨fun h => absurd h (by omega), fun _ => ⟨fun h => absurd h (by omega), fun _ => ⟨by omega, h2, by omega⟩⟩⟩⟩⟩)
theorem k_l7Value : SoundC Tryz.prog K_l7Value.1 K_l7Value.2 := sound_of hm (((CtxOK.nil.and k_RatOfP).and k_num).and k_pick) (fun _ => []) (by kernel_rfl) fun ((b, p, s) : List Int × Int × Int) hb => (by
  replace hb : Rd 549755813888 b p := hb
  rw [← vc_l7Value b p s]
  simp [-List.getD_eq_getElem?_getD, -List.mem_cons, -Bool.forall_bool, -Bool.exists_bool, and_assoc, peta, tl_inj, ex_1, ex_2, ex_3, ex_4, ex_5, ex_6, ex_7, ex_8, ex_9, ey_2, ey_3, ey_4, ey_5, ey_6, ey_7, ey_8, ey_9]
  have g3 := hb.2.2.1
  have g4 := hb.2.2.2
  refine ⟨fun _ => ⟨hb.to (by omega) (by omega), fun _ _ _ => by omega⟩, fun _ => ⟨hb.to (by omega) (by omega), fun y hy => ⟨hb.to (by omega) (by omega), fun z hz => ?_⟩⟩⟩
  simp at hy hz
  exact ⟨by omega, by omega, by omega, fun _ => ⟨by omega, by omega⟩, fun _ => ⟨by omega, by omega⟩⟩)
/-- Rows that were written out, one by one. -/
def LitR {α : Type} (k : Nat) (e : α → Nat → AV) (d : α) (rows : List (List AV)) (l : List α) : Prop := rows.length = l.length ∧ ∀ i, i < l.length → ∀ j, j < k → Is ((rows.getD i []).getD j .any) (e (l.getD i d) j)
theorem LitR.nil {α : Type} {k : Nat} {e : α → Nat → AV} {d : α} : LitR k e d [] [] := ⟨rfl, fun i hi => by cases hi⟩
theorem LitR.cons {α : Type} {k : Nat} {e : α → Nat → AV} {d : α} {rows : List (List AV)} {l : List α} (h : LitR k e d rows l) {r : List AV} {v : α} (hr : ∀ j, j < k → Is (r.getD j .any) (e v j)) : LitR k e d (r :: rows) (v :: l) :=
  ⟨by simp [h.1], fun i hi j hj => by
    cases i with
    | zero => exact hr j hj
    | succ i => exact h.2 i (by simpa using hi) j hj⟩
theorem LitR.is {α : Type} {k : Nat} {e : α → Nat → AV} {d : α} {rows : List (List AV)} {l : List α} (h : LitR k e d rows l) : Is (.lit rows.length k (rowsCell rows)) (.sl l.length k fun i j => e (l.getD i d) j) :=
  Is_lit_of h.1 fun i hi j hj => h.2 i hi j hj
theorem rowY {a : ByteArray} {b : AV} {l : List Int} {c : Int} (hb : Is b (ints l)) : ∀ j, j < 3 → Is ([st a, b, i64 c].getD j .any) (eY (a, l, c) j) := Is_rowY hb
theorem ints_l0 {q : Nat} {c : Nat → Nat → AV} : Is (.lit 0 q c) (ints []) := ints_nil.2 rfl
theorem ints_l1 {a : Int} : Is (.lit 1 1 (rowsCell [[i64 a]])) (ints [a]) := ints_lit1.2 rfl
theorem ints_l2 {a b : Int} : Is (.lit 2 1 (rowsCell [[i64 a], [i64 b]])) (ints [a, b]) := ints_lit2.2 rfl
theorem base_small (k : Int) : SgB 5 2 (base k) := by
  unfold base
  split
  · exact ⟨by decide, by simp; decide⟩
  · split
    · exact ⟨by decide, by simp; decide⟩
    · split
      · exact ⟨by decide, by simp; decide⟩
      · split
        · exact ⟨by decide, by simp; decide⟩
        · exact ⟨by decide, by simp⟩
theorem k_l4Base : SoundC Tryz.prog K_l4Base.1 K_l4Base.2 := sound_of hm CtxOK.nil (fun _ => []) (by kernel_rfl) fun (k : Int) hb => (by
  rw [← vc_l4Base k]
  simp [-List.getD_eq_getElem?_getD, -List.mem_cons, -Bool.forall_bool, -Bool.exists_bool, and_assoc, peta, tl_inj, ex_1, ex_2, ex_3, ex_4, ex_5, ex_6, ex_7, ex_8, ex_9, ey_2, ey_3, ey_4, ey_5, ey_6, ey_7, ey_8, ey_9]
  refine ⟨fun h => ?_, fun h0 => ⟨fun h => ?_, fun h1 => ⟨fun h => ?_, fun h2 => ⟨fun h => ?_, fun h3 => ?_⟩⟩⟩⟩
  · unfold base; rw [if_pos h]
    exact (((((LitR.nil.cons (rowY ints_l2)).cons (rowY ints_l1)).cons (rowY ints_l0)).cons (rowY ints_l0)).cons (rowY ints_l0)).is
  · unfold base; rw [if_neg h0, if_pos h]
    exact (((((LitR.nil.cons (rowY ints_l0)).cons (rowY ints_l0)).cons (rowY ints_l1)).cons (rowY ints_l0)).cons (rowY ints_l0)).is
  · unfold base; rw [if_neg h0, if_neg h1, if_pos h]
    exact ((((LitR.nil.cons (rowY ints_l0)).cons (rowY ints_l0)).cons (rowY ints_l0)).cons (rowY ints_l1)).is
  · unfold base; rw [if_neg h0, if_neg h1, if_neg h2, if_pos h]
    exact (((((LitR.nil.cons (rowY ints_l0)).cons (rowY ints_l0)).cons (rowY ints_l2)).cons (rowY ints_l1)).cons (rowY ints_l0)).is
  · unfold base; rw [if_neg h0, if_neg h1, if_neg h2, if_neg h3])
theorem k_l4Sig : SoundC Tryz.prog K_l4Sig.1 K_l4Sig.2 := sound_of hm ((CtxOK.nil.and k_l4Base).and k_num) (fun _ => []) (by kernel_rfl) fun ((b, p) : List Int × Int) hb => (by
  replace hb : Rd 549755813888 b p := hb
  rw [← vc_l4Sig b p]
  simp [-List.getD_eq_getElem?_getD, -List.mem_cons, -Bool.forall_bool, -Bool.exists_bool, and_assoc, peta, tl_inj, ex_1, ex_2, ex_3, ex_4, ex_5, ex_6, ex_7, ex_8, ex_9, ey_2, ey_3, ey_4, ey_5, ey_6, ey_7, ey_8, ey_9]
  exact ⟨hb.to hb.2.2.1 (by have := hb.2.2.2; omega), fun y _ => base_small y⟩)
theorem IsR_store {α : Type} {k : Nat} {e : α → Nat → AV} {d : α} (he : EncN k e) {l : List α} {i0 off : Nat} {v : α} {vs : List AV}
    (h : ∀ j, j < k → Is (bif Nat.ble off j && Nat.blt j (off + vs.length) then vs.getD (j - off) .any else e (l.getD i0 d) j) (e v j)) : IsR k e d (storeC (fun i j => e (l.getD i d) j) i0 off vs) (l.set i0 v) := fun i hi j hj => by
  have hi' : i < l.length := by simpa using hi
  unfold storeC
  by_cases hii : i = i0
  · subst hii
    have e1 : (l.set i v).getD i d = v := by simp [hi']
    rw [e1, beq_iff.2 rfl, Bool.true_and]
    exact h j hj
  · have e1 : (l.set i0 v).getD i d = l.getD i d := by simp only [List.getD_eq_getElem?_getD, List.getElem?_set_ne (Ne.symm hii)]
    have e2 : Nat.beq i i0 = false := by
      cases hb : Nat.beq i i0
      · rfl
      · exact absurd (beq_iff.1 hb) hii
    rw [e1, e2]
    exact he.self _ hj
theorem IsR_storeG {α : Type} {k : Nat} {e : α → Nat → AV} {d : α} {c : Nat → Nat → AV} {l : List α} (hc : IsR k e d c l) {i0 : Nat} {v : α} {vs : List AV} (hl : vs.length = k)
    (h : ∀ j, j < k → Is (vs.getD j .any) (e v j)) : IsR k e d (storeC c i0 0 vs) (l.set i0 v) := fun i hi j hj => by
  have hi' : i < l.length := by simpa using hi
  unfold storeC
  by_cases hii : i = i0
  · subst hii
    have e1 : (l.set i v).getD i d = v := by simp [hi']
    rw [e1, beq_iff.2 rfl, Bool.true_and, ble_iff.2 (Nat.zero_le j), blt_true (by omega), Bool.true_and, cond_true, Nat.sub_zero]
    exact h j hj
  · have e1 : (l.set i0 v).getD i d = l.getD i d := by simp only [List.getD_eq_getElem?_getD, List.getElem?_set_ne (Ne.symm hii)]
    have e2 : Nat.beq i i0 = false := by
      cases hb : Nat.beq i i0
      · rfl
      · exact absurd (beq_iff.1 hb) hii
    rw [e1, e2, Bool.false_and, Bool.false_and, cond_false]
    exact hc i hi' j hj
theorem IsX_v (x : Value) : IsX (.v x) (.v x) := rfl
theorem IsX_eR (x : Rw) (j : Nat) (hj : j < 4) : IsX (eR x j) (eR x j) := by
  match j, hj with
  | 0, _ => exact IsX_v _
  | 1, _ => exact ⟨rfl, rfl, fun i hi j hj => EncN.eQ.self _ hj⟩
  | 2, _ => exact IsX_v _
  | 3, _ => exact IsX_v _
@[simp] theorem xrR_self {l : List Rw} : IsO (xrR l) (xrR l) := ⟨rfl, rfl, fun i hi j hj => IsX_eR _ j hj⟩
theorem mem_set_imp {α : Type} {q : α → Prop} {l : List α} {i : Nat} {v : α} (h : ∀ x ∈ l, q x) (hv : q v) : ∀ x ∈ l.set i v, q x := fun x hx => by
  rcases List.mem_or_eq_of_mem_set hx with e | e
  · exact h x e
  · rw [e]; exact hv
theorem mem_push_imp {α : Type} {q : α → Prop} {l : List α} {v : α} (h : ∀ x ∈ l, q x) (hv : q v) : ∀ x ∈ l ++ [v], q x := fun x hx => by
  rcases List.mem_append.1 hx with e | e
  · exact h x e
  · rw [List.mem_singleton.1 e]; exact hv
theorem _root_.Pl.SgB.mono {n k n' k' : Nat} {s : Pl.Sig} (h : SgB n k s) (h1 : n ≤ n') (h2 : k ≤ k') : SgB n' k' s := ⟨Nat.le_trans h.1 h1, fun x hx => ⟨(h.2 x hx).1, Nat.le_trans (h.2 x hx).2 h2⟩⟩
theorem _root_.Pl.SgB.set {n k : Nat} {s : Pl.Sig} (h : SgB n k s) {i : Nat} {x : Sym} (hx : x.1.size ≤ 10 ∧ x.2.1.length ≤ k) : SgB n k (s.set i x) := ⟨by simpa using h.1, mem_set_imp h.2 hx⟩
theorem _root_.Pl.SgB.push {n k : Nat} {s : Pl.Sig} (h : SgB n k s) {x : Sym} (hn : s.length < n) (hx : x.1.size ≤ 10 ∧ x.2.1.length ≤ k) : SgB n k (s ++ [x]) := ⟨by simp; omega, mem_push_imp h.2 hx⟩
theorem _root_.Pl.MdB.mono {n k n' k' : Nat} {s : Mdl} (h : MdB n k s) (h1 : n ≤ n') (h2 : k ≤ k') : MdB n' k' s := ⟨Nat.le_trans h.1 h1, fun x hx => ⟨(h.2 x hx).1, Nat.le_trans (h.2 x hx).2 h2⟩⟩
theorem _root_.Pl.MdB.set {n k : Nat} {s : Mdl} (h : MdB n k s) {i : Nat} {x : Rw} (hx : x.1.size ≤ 10 ∧ x.2.1.length ≤ k) : MdB n k (s.set i x) := ⟨by simpa using h.1, mem_set_imp h.2 hx⟩
theorem _root_.Pl.MdB.push {n k : Nat} {s : Mdl} (h : MdB n k s) {x : Rw} (hn : s.length < n) (hx : x.1.size ≤ 10 ∧ x.2.1.length ≤ k) : MdB n k (s ++ [x]) := ⟨by simp; omega, mem_push_imp h.2 hx⟩
theorem names4 : ∀ y ∈ [(⟨#[]⟩ : ByteArray), ⟨#[65]⟩, ⟨#[122, 122]⟩], y.size ≤ 10 := by decide
theorem k_l7Some0 (k_l7Any : SoundC Tryz.prog K_l7Any.1 K_l7Any.2) : SoundC Tryz.prog K_l7Some.1 K_l7Some.2 := sound_of hm ((((CtxOK.nil.and k_of).and k_rat).and k_pick).and k_l7Any) (fun _ => []) (by kernel_rfl) fun ((b, p, s) : List Int × Int × Pl.Sig) hb => (by
  obtain ⟨h1, h2⟩ : Rd 68719476736 b p ∧ SgB 5 2 s := hb
  rw [← vc_l7Some b p s]
  simp [-List.getD_eq_getElem?_getD, -List.mem_cons, -Bool.forall_bool, -Bool.exists_bool, and_assoc, peta, tl_inj, ex_1, ex_2, ex_3, ex_4, ex_5, ex_6, ex_7, ex_8, ex_9, ey_2, ey_3, ey_4, ey_5, ey_6, ey_7, ey_8, ey_9]
  have g3 := h1.2.2.1
  have g4 := h1.2.2.2
  refine ⟨h1.to (by omega) (by omega), h2, fun m q hm q1 q2 => ?_⟩
  have hB : MdB 16 3 m := hm.mono (by decide) (by decide)
  obtain ⟨m1, m2⟩ : m.length ≤ 15 ∧ ∀ x ∈ m, x.1.size ≤ 10 ∧ x.2.1.length ≤ 2 := id hm
  refine ⟨fun _ => ⟨hB, by omega, by omega⟩, fun hne => ⟨h1.to (by omega) (by omega), fun y y1 y2 => ⟨fun _ => ⟨hB, by omega, by omega⟩, fun _ => ⟨h1.to (by omega) (by omega), fun k hk _ => ⟨h1.to (by omega) (by omega), fun z z1 z2 => ?_⟩⟩⟩⟩⟩
  have h0 : 0 < m.length := List.length_pos_iff.2 hne
  obtain ⟨k1, k2⟩ := hk (by omega)
  have hkl : k.toNat < m.length := by omega
  have h3 := m2 _ (getD_mem dR hkl)
  have h30 := m2 _ (getD_mem dR h0)
  have hsl : ∀ v : Rw, (m.set k.toNat v).length = m.length := fun v => by simp
  refine ⟨fun _ => ⟨h1.to (by omega) (by omega), fun v w => ?_⟩, fun _ => ⟨fun _ => ?_, fun _ => ⟨fun _ => ?_, fun _ => ⟨fun _ => ⟨h1.to (by omega) (by omega), fun nm hnm => ?_⟩, fun _ => ?_⟩⟩⟩⟩
  · exact ⟨by omega, by omega, by omega, _, hB.set (x := ((m.getD k.toNat dR).1, (m.getD k.toNat dR).2.1, v, w)) ⟨h3.1, Nat.le_trans h3.2 (by decide)⟩, by omega, by omega, Is_sl_of (hsl _).symm (IsR_store EncN.eR fun j hj => by
      match j, hj with
      | 0, _ => exact EncN.eR.self _ (j := 0) (by decide)
      | 1, _ => exact EncN.eR.self _ (j := 1) (by decide)
      | 2, _ => exact Is_i64.2 rfl
      | 3, _ => exact Is_i64.2 rfl)⟩
  · exact ⟨by omega, by omega, by omega, by omega, _, hB.push (x := m.getD k.toNat dR) (by omega) ⟨h3.1, by omega⟩, by omega, by omega, ((Rds.cel EncN.eR m).join (Rds.row (IsR_row EncN.eR (Is_rowR (Is_rats.2 rfl))))).is⟩
  · exact ⟨by omega, by omega, by omega, by omega, by omega, by omega, by omega, _, hB.set (x := ((m.getD k.toNat dR).1, (m.getD k.toNat dR).2.1 ++ [(0, 1)], (m.getD k.toNat dR).2.2)) ⟨h3.1, by dsimp only; rw [List.length_append, List.length_singleton]; omega⟩, by omega, by omega, Is_sl_of (hsl _).symm (IsR_store EncN.eR fun j hj => by
      match j, hj with
      | 0, _ => exact EncN.eR.self _ (j := 0) (by decide)
      | 1, _ => exact ((Rds.cel EncN.eQ (m.getD k.toNat dR).2.1).join (Rds.row (d := dQ) (v := ((0, 1) : Rt)) (r := [i64 0, i64 1]) (IsR_row EncN.eQ fun j hj => by
          match j, hj with
          | 0, _ => exact Is_i64.2 rfl
          | 1, _ => exact Is_i64.2 rfl))).is
      | 2, _ => exact EncN.eR.self _ (j := 2) (by decide)
      | 3, _ => exact EncN.eR.self _ (j := 3) (by decide))⟩
  · exact ⟨by omega, by omega, by omega, _, hB.set (x := (nm, (m.getD k.toNat dR).2)) ⟨names4 nm hnm, Nat.le_trans h3.2 (by decide)⟩, by omega, by omega, Is_sl_of (hsl _).symm (IsR_store EncN.eR fun j hj => by
      match j, hj with
      | 0, _ => exact Is_st.2 rfl
      | 1, _ => exact EncN.eR.self _ (j := 1) (by decide)
      | 2, _ => exact EncN.eR.self _ (j := 2) (by decide)
      | 3, _ => exact EncN.eR.self _ (j := 3) (by decide))⟩
  · refine ⟨by omega, by omega, by omega, by omega, by omega, by omega, by omega, by omega, (m.set k.toNat (m.getD 0 dR)).set 0 (m.getD k.toNat dR), (hB.set ⟨h30.1, by omega⟩).set ⟨h3.1, by omega⟩, by omega, by omega, ?_⟩
    exact Is_sl_of (by simp) (IsR_storeG (IsR_storeG (IsR_cel EncN.eR) rfl (Is_rowR (Is_rats.2 rfl))) rfl (Is_rowR (Is_rats.2 rfl))))
end Cg

/-
  Drawn models that stay as they are. No condition.
-/

/-
  What is left to show of each function's code, printed by a program: Mdf. No condition.
-/
set_option maxRecDepth 100000
set_option linter.unusedVariables false
namespace Cg
open Go Go.Proofs
end Cg
