/-
  The codes' contracts: the sorts of terms. No condition.
-/
import Derived.Test.YtjhiaobcbbnhnaaGreatTsortVc
import Derived.Test.YtjhiaobcbbnhnaaGreatSortOk
set_option linter.unusedVariables false
set_option linter.unusedSimpArgs false
set_option maxRecDepth 100000
set_option maxHeartbeats 1000000
namespace Pl
open Go Cg
theorem sumN_congr {α : Type} {f g : α → Nat} : ∀ {l : List α}, (∀ x ∈ l, f x = g x) → sumN f l = sumN g l
  | [], _ => rfl
  | x :: r, h => by simp only [sumN]; rw [h x List.mem_cons_self, sumN_congr fun y hy => h y (List.mem_cons_of_mem _ hy)]
theorem sumN_le {α : Type} {f : α → Nat} {b : Nat} : ∀ {l : List α}, (∀ x ∈ l, f x ≤ b) → sumN f l ≤ l.length * b
  | [], _ => Nat.zero_le _
  | x :: r, h => by
    simp only [sumN, List.length_cons, Nat.add_mul, Nat.one_mul]
    have := h x List.mem_cons_self
    have := sumN_le (l := r) fun y hy => h y (List.mem_cons_of_mem _ hy)
    omega
theorem tsz_shape : ∀ (n : Nat) (t : Tm), (shape n t = true → tsz n t = manyD n t) ∧ (shape n t = false → 13 ≤ tsz n t)
  | 0, t => ⟨fun h => (by simp [shape] at h), fun _ => Nat.le_refl _⟩
  | n + 1, t => by
    simp only [shape, tsz, manyD]
    cases h1 : nameOk t.val
    · simp
    · by_cases h2 : t.kids.length ≤ 2
      · have h2' : ¬ t.kids.length > 2 := by omega
        rw [decide_eq_true h2, decide_eq_false h2']
        simp only [Bool.not_true, Bool.or_self, Bool.false_eq_true, if_false, Bool.and_self, Bool.true_and]
        refine ⟨fun h => ?_, fun h => ?_⟩
        · rw [sumN_congr fun x hx => (tsz_shape n x).1 (List.all_eq_true.1 h x hx)]
        · obtain ⟨x, hx, h3⟩ := List.all_eq_false.1 h
          have h4 := (tsz_shape n x).2 (by simpa using h3)
          have h5 := sumN_mem (tsz n) hx
          omega
      · have h2' : t.kids.length > 2 := by omega
        rw [decide_eq_false h2, decide_eq_true h2']
        simp
theorem isTerm_right (t : Tm) : isTerm t = right t := by
  obtain ⟨h1, h2⟩ := tsz_shape 4 t
  unfold isTerm right
  cases h : shape 4 t
  · rw [Bool.false_and]; exact decide_eq_false (by have := h2 h; omega)
  · rw [h1 h, Bool.true_and]
theorem tsz_le : ∀ (n : Nat) (t : Tm), tsz n t + 1 ≤ 14 * 2 ^ n
  | 0, t => by simp [tsz]
  | n + 1, t => by
    have h0 : 1 ≤ 2 ^ n := Nat.one_le_two_pow
    simp only [tsz, Nat.pow_succ]
    split
    · omega
    · rename_i h
      have h2 : t.kids.length ≤ 2 := by
        simp only [Bool.or_eq_true, decide_eq_true_eq] at h; omega
      have h3 : sumN (tsz n) t.kids ≤ t.kids.length * (14 * 2 ^ n - 1) := sumN_le fun x _ => by have := tsz_le n x; omega
      have h4 : t.kids.length * (14 * 2 ^ n - 1) ≤ 2 * (14 * 2 ^ n - 1) := Nat.mul_le_mul_right _ h2
      omega
theorem manyD_le : ∀ (n : Nat) (t : Tm), manyD n t ≤ 1 + costT t
  | 0, t => by simp [manyD]
  | n + 1, t => by
    simp only [manyD]
    rw [costT_eq]
    have : ∀ l : List Tm, sumN (manyD n) l ≤ l.length + costTs l := by
      intro l
      induction l with
      | nil => simp [sumN]
      | cons x r ih => simp only [sumN, costTs, List.length_cons]; have := manyD_le n x; omega
    have := this t.kids
    omega
theorem sigL_mem : ∀ {s : Sig} {p : Option ByteArray}, sigL p s = true → ∀ y ∈ s, symOk y = true
  | x :: r, p, h, y, hy => by
    simp only [sigL, Bool.and_eq_true] at h
    cases List.mem_cons.1 hy with
    | inl e => subst e; exact h.1.1
    | inr e => exact sigL_mem h.2 y e
theorem sigOk_mem {s : Sig} (h : sigOk s = true) {y : Sym} (hy : y ∈ s) : symOk y = true := by
  simp only [sigOk, Bool.and_eq_true] at h
  exact sigL_mem h.1 y hy
theorem find_mem {s : Sig} {nm : ByteArray} (h : (find s nm).isSome = true) : symOf s nm ∈ s := by
  unfold symOf
  cases h2 : find s nm with
  | none => rw [h2] at h; cases h
  | some y => exact List.mem_of_find?_eq_some h2
theorem isSort_iff {n : Int} : isSort n = true ↔ n = 0 ∨ n = 1 := by simp [isSort]
theorem sortT_eq (s : Sig) (a : ByteArray) (b : List Tm) : sortT s (.mk a b) = if (find s a).isSome = true ∧ (symOf s a).2.1.length = b.length ∧ sortL s b (symOf s a).2.1 = true then some (symOf s a).2.2 else none := by
  simp only [sortT]
  unfold symOf
  cases h : find s a with
  | none => simp
  | some y => simp only [Option.getD_some, Option.isSome_some, true_and]; split <;> split <;> simp_all
theorem sortT_sort {s : Sig} (hs : sigOk s = true) {t : Tm} {n : Int} (h : sortT s t = some n) : n = 0 ∨ n = 1 := by
  cases t with
  | mk a b =>
    rw [sortT_eq] at h
    split at h
    · rename_i h1
      cases h
      have := sigOk_mem hs (find_mem h1.1)
      simp only [symOk, Bool.and_eq_true] at this
      exact isSort_iff.1 this.1.2
    · cases h
theorem sortL_cons (s : Sig) (t : Tm) (ts : List Tm) (n : Int) (ns : List Int) : sortL s (t :: ts) (n :: ns) = (decide (sortT s t = some n) && sortL s ts ns) := by
  conv => lhs; unfold sortL
  rfl
theorem find_step {s : Sig} {nm : ByteArray} {k : Nat} (hk : k < s.length) (he : find s nm = find (s.drop k) nm) : ((s.getD k dY).1 = nm → find s nm = some (s.getD k dY)) ∧ ((s.getD k dY).1 ≠ nm → find s nm = find (s.drop (k + 1)) nm) := by
  rw [drop_get dY hk] at he
  unfold find at he ⊢
  rw [List.find?_cons] at he
  refine ⟨fun h => ?_, fun h => ?_⟩
  · rw [he]; simp only [h, decide_true]
  · rw [he]; simp only [h, decide_false]
end Pl
namespace Cg
open Go Go.Proofs Pl

theorem tm_size {a : ByteArray} {b : List Tm} (h : SmT (.mk a b)) : a.size ≤ 1048576 ∧ b.length ≤ 1048576 := by
  have h1 : costT (.mk a b) ≤ 1048576 := h
  rw [costT_eq] at h1
  simp only [Tree.val, Tree.kids] at h1
  omega

theorem k_l4Shape (n : Nat) : SoundC Tryz.prog (K_l4Shape n).1 (K_l4Shape n).2 := by
  induction n with
  | zero => exact sound_of hm (CtxOK.nil.and k_sNameOk) (fun _ => []) (by kernel_rfl) fun (x : TP) hl => (by
      rw [← vc_l4Shape0 x]
      simp [-List.getD_eq_getElem?_getD, -List.mem_cons, -Bool.forall_bool, -Bool.exists_bool, and_assoc, peta, tl_inj, ex_1, ex_2, ex_3, ex_4, ex_5, ex_6, ex_7, ex_8, ex_9, ey_2, ey_3, ey_4, ey_5, ey_6, ey_7, ey_8, ey_9]
      rfl)
  | succ n ih => exact sound_of hm ((CtxOK.nil.and (K := K_l4Shape n) ih).and k_sNameOk) (fun x => A_l4Shape n x.1 x.2) (by kernel_rfl) fun (x : TP) hl => (by
      have h1 : SmT (.mk x.1 x.2) := hl.1
      have hn : n + 1 ≤ 10 := hl.2
      clear hl
      rw [← vc_l4Shape n x]
      obtain ⟨a, b⟩ := x
      dsimp only at *
      simp [-List.getD_eq_getElem?_getD, -List.mem_cons, -Bool.forall_bool, -Bool.exists_bool, and_assoc, peta, tl_inj, ex_1, ex_2, ex_3, ex_4, ex_5, ex_6, ex_7, ex_8, ex_9, ey_2, ey_3, ey_4, ey_5, ey_6, ey_7, ey_8, ey_9]
      obtain ⟨t1, t2⟩ := tm_size h1
      have k1 := (SmT.kids h1).len
      have e : Pl.shape (n + 1) (Tree.mk a b) = (nameOk a && decide (b.length ≤ 2) && b.all (Pl.shape n)) := rfl
      refine ⟨t1, fun h => by rw [e, h]; rfl, fun h => ⟨fun h2 => by rw [e, decide_eq_false (by omega)]; simp, fun h2 => ⟨⟨0, by simp, by rw [e, h, decide_eq_true (by omega)]; simp, rfl⟩, fun k hk he => ⟨fun hlt => ?_, fun hge => by rw [he, drop_end (by omega)]; rfl⟩⟩⟩⟩
      rw [drop_get dT hlt, List.all_cons] at he
      exact ⟨hlt, wrap_small (by omega) (by omega), (SmT.kids h1).mem (getD_mem dT hlt), by omega, fun h3 => by rw [he, h3]; rfl, fun h3 => ⟨k + 1, hlt, by rw [he, h3, Bool.true_and], by omega, wrap_small (by omega) (by omega)⟩⟩)

theorem k_l4Many (n : Nat) : SoundC Tryz.prog (K_l4Many n).1 (K_l4Many n).2 := by
  induction n with
  | zero => exact sound_of hm CtxOK.nil (fun x => A_l4Many0 x.1 x.2) (by kernel_rfl) fun (x : TP) hl => (by
      clear hl
      rw [← vc_l4Many0 x]
      obtain ⟨a, b⟩ := x
      dsimp only at *
      simp [-List.getD_eq_getElem?_getD, -List.mem_cons, -Bool.forall_bool, -Bool.exists_bool, and_assoc, peta, tl_inj, ex_1, ex_2, ex_3, ex_4, ex_5, ex_6, ex_7, ex_8, ex_9, ey_2, ey_3, ey_4, ey_5, ey_6, ey_7, ey_8, ey_9]
      simp [manyD])
  | succ n ih => exact sound_of hm (CtxOK.nil.and (K := K_l4Many n) ih) (fun x => A_l4Many n x.1 x.2) (by kernel_rfl) fun (x : TP) hl => (by
      have h1 : SmT (.mk x.1 x.2) := hl.1
      have hn : n + 1 ≤ 10 := hl.2
      clear hl
      rw [← vc_l4Many n x]
      obtain ⟨a, b⟩ := x
      dsimp only at *
      simp [-List.getD_eq_getElem?_getD, -List.mem_cons, -Bool.forall_bool, -Bool.exists_bool, and_assoc, peta, tl_inj, ex_1, ex_2, ex_3, ex_4, ex_5, ex_6, ex_7, ex_8, ex_9, ey_2, ey_3, ey_4, ey_5, ey_6, ey_7, ey_8, ey_9]
      have k1 := (SmT.kids h1).len
      have bnd : ∀ k, 1 + sumN (manyD n) (b.take k) ≤ 1 + costT (.mk a b) := fun k => by
        have := sumN_take_le (manyD n) b k
        have h2 := manyD_le (n + 1) (.mk a b)
        simp only [manyD, Tree.kids] at h2
        omega
      have h1' : costT (.mk a b) ≤ 1048576 := h1
      refine ⟨⟨0, by simp, by simp [sumN], rfl⟩, fun k hk => ⟨fun hlt => ?_, fun hge => ?_⟩⟩
      · have ht := sumN_take (manyD n) dT hlt
        have := bnd (k + 1)
        exact ⟨hlt, wrap_small (by omega) (by omega), (SmT.kids h1).mem (getD_mem dT hlt), by omega, k + 1, hlt, by omega, by rw [wrap_small (by omega) (by omega), ht]; omega, wrap_small (by omega) (by omega)⟩
      · rw [List.take_of_length_le hge]; simp [manyD])

theorem k_l4Right : SoundC Tryz.prog K_l4Right.1 K_l4Right.2 := sound_of hm ((CtxOK.nil.and (K := K_l4Many 4) (k_l4Many 4)).and (K := K_l4Shape 4) (k_l4Shape 4)) (fun _ => []) (by kernel_rfl) fun (a, b) hl => cast (vc_l4Right a b) (by
  replace hl : SmT (.mk a b) := hl
  simp [-List.getD_eq_getElem?_getD, -List.mem_cons, -Bool.forall_bool, -Bool.exists_bool, and_assoc, peta, tl_inj, ex_1, ex_2, ex_3, ex_4, ex_5, ex_6, ex_7, ex_8, ex_9, ey_2, ey_3, ey_4, ey_5, ey_6, ey_7, ey_8, ey_9]
  exact ⟨hl, fun h => ⟨hl, by unfold right; rw [h, Bool.true_and]; congr 1; simp only [eq_iff_iff]; omega⟩, fun h => by unfold right; rw [h]; rfl⟩)
theorem k_l4Find : SoundC Tryz.prog K_l4Find.1 K_l4Find.2 := sound_of hm CtxOK.nil (fun (s, nm) => A_l4Find s nm) (by kernel_rfl) fun (s, nm) hl => cast (vc_l4Find s nm) (by
  replace hl : SmG s := hl
  simp [-List.getD_eq_getElem?_getD, -List.mem_cons, -Bool.forall_bool, -Bool.exists_bool, and_assoc, peta, tl_inj, ex_1, ex_2, ex_3, ex_4, ex_5, ex_6, ex_7, ex_8, ex_9, ey_2, ey_3, ey_4, ey_5, ey_6, ey_7, ey_8, ey_9]
  have hlen := hl.len
  refine ⟨⟨0, by simp, by simp, rfl, rfl⟩, fun k hk he => ⟨fun hlt => ⟨hlt, fun h => ?_, fun h => ⟨k + 1, hlt, (find_step hlt he).2 h, by omega, wrap_small (by omega) (by omega)⟩⟩, fun hge => ?_⟩⟩
  · have := (find_step hlt he).1 h
    unfold symOf
    rw [this]
    exact ⟨hlt, rfl, rfl, rfl, rfl⟩
  · rw [drop_end (by omega)] at he
    unfold symOf
    rw [he]
    exact ⟨rfl, rfl, rfl, rfl⟩)
theorem k_symbol : SoundC Tryz.prog K_symbol.1 K_symbol.2 := sound_of hm CtxOK.nil (fun (s, nm) => A_symbol s nm) (by kernel_rfl) fun (s, nm) hl => cast (vc_symbol s nm) (by
  replace hl : SmG s := hl
  simp [-List.getD_eq_getElem?_getD, -List.mem_cons, -Bool.forall_bool, -Bool.exists_bool, and_assoc, peta, tl_inj, ex_1, ex_2, ex_3, ex_4, ex_5, ex_6, ex_7, ex_8, ex_9, ey_2, ey_3, ey_4, ey_5, ey_6, ey_7, ey_8, ey_9]
  have hlen := hl.len
  refine ⟨⟨0, by simp, by simp, rfl, rfl⟩, fun k hk he => ⟨fun hlt => ⟨hlt, fun h => ?_, fun h => ⟨k + 1, hlt, (find_step hlt he).2 h, by omega, wrap_small (by omega) (by omega)⟩⟩, fun hge => ?_⟩⟩
  · have := (find_step hlt he).1 h
    unfold symOf
    rw [this]
    exact ⟨rfl, rfl, rfl, rfl⟩
  · rw [drop_end (by omega)] at he
    unfold symOf
    rw [he]
    exact ⟨rfl, rfl, rfl, rfl⟩)
theorem k_l4Of (n : Nat) : SoundC Tryz.prog (K_l4Of n).1 (K_l4Of n).2 := by
  induction n with
  | zero => exact sound_of hm CtxOK.nil (fun _ => []) (by kernel_rfl) fun x h => absurd h.2 (Nat.not_lt_zero _)
  | succ n ih => exact sound_of hm ((CtxOK.nil.and (K := K_l4Of n) ih).and k_l4Find) (fun x => A_l4Of x.1 x.2.1 x.2.2) (by kernel_rfl) fun (x : Sig × TP) hl => (by
      have hs : sigOk x.1 = true := hl.1.1
      have hg : SmG x.1 := hl.1.2.1
      have ht : SmT (.mk x.2.1 x.2.2) := hl.1.2.2
      have hn : manyL x.2.2 < n + 1 := hl.2
      clear hl
      rw [← vc_l4Of n x]
      obtain ⟨s, a, b⟩ := x
      dsimp only at *
      simp [-List.getD_eq_getElem?_getD, -List.mem_cons, -Bool.forall_bool, -Bool.exists_bool, and_assoc, peta, tl_inj, ex_1, ex_2, ex_3, ex_4, ex_5, ex_6, ex_7, ex_8, ex_9, ey_2, ey_3, ey_4, ey_5, ey_6, ey_7, ey_8, ey_9]
      have k1 := (SmT.kids ht).len
      have e := sortT_eq s a b
      refine ⟨hg, fun h => by rw [e, h]; rfl, fun h => ⟨fun h2 => by rw [e, if_neg (fun h3 => h2 (by omega))]; rfl, fun h2 => ⟨⟨0, by simp, by omega, h, by simp, rfl⟩, fun k hk hb hf he => ⟨fun hlt => ?_, fun hge => ?_⟩⟩⟩⟩
      · have hy := sigOk_mem hs (find_mem hf)
        simp only [symOk, Bool.and_eq_true] at hy
        have hz := isSort_iff.1 (List.all_eq_true.1 hy.2 _ (getD_mem 0 (by omega : k < (symOf s a).2.1.length)))
        rw [drop_get dT hlt, drop_get 0 (by omega : k < (symOf s a).2.1.length)] at he
        rw [sortL_cons] at he
        have key : (sortT s (b.getD k dT)).getD (-1) = (symOf s a).2.1.getD k 0 ↔ sortT s (b.getD k dT) = some ((symOf s a).2.1.getD k 0) := by
          cases sortT s (b.getD k dT) with
          | none => exact ⟨fun h => by simp only [Option.getD_none] at h; omega, fun h => by cases h⟩
          | some m => simp
        refine ⟨hlt, hs, hg, (SmT.kids ht).mem (getD_mem dT hlt), by have := manyL_kids (getD_mem dT hlt); omega, by omega, fun h3 => ?_, fun h3 => ⟨k + 1, hlt, hb, hf, ?_, by omega, wrap_small (by omega) (by omega)⟩⟩
        · rw [decide_eq_false (fun h4 => h3 (key.2 h4)), Bool.false_and] at he
          rw [e, if_neg (fun h5 => by rw [he] at h5; cases h5.2.2)]; rfl
        · rw [he, decide_eq_true (key.1 h3), Bool.true_and]
      · rw [drop_end (by omega)] at he
        simp only [sortL] at he
        rw [e, if_pos ⟨hf, hb, he⟩]; rfl)
theorem k_sortOf (n : Nat) : SoundC Tryz.prog (K_sortOf n).1 (K_sortOf n).2 := by
  induction n with
  | zero => exact sound_of hm CtxOK.nil (fun _ => []) (by kernel_rfl) fun x h => absurd h.2 (Nat.not_lt_zero _)
  | succ n ih => exact sound_of hm ((CtxOK.nil.and (K := K_sortOf n) ih).and k_symbol) (fun x => A_sortOf x.1 x.2.1 x.2.2) (by kernel_rfl) fun (x : Sig × TP) hl => (by
      have hs : sigOk x.1 = true := hl.1.1
      have hg : SmG x.1 := hl.1.2.1
      have ht : SmT (.mk x.2.1 x.2.2) := hl.1.2.2
      have hn : manyL x.2.2 < n + 1 := hl.2
      clear hl
      rw [← vc_sortOf n x]
      obtain ⟨s, a, b⟩ := x
      dsimp only at *
      simp [-List.getD_eq_getElem?_getD, -List.mem_cons, -Bool.forall_bool, -Bool.exists_bool, and_assoc, peta, tl_inj, ex_1, ex_2, ex_3, ex_4, ex_5, ex_6, ex_7, ex_8, ex_9, ey_2, ey_3, ey_4, ey_5, ey_6, ey_7, ey_8, ey_9]
      have k1 := (SmT.kids ht).len
      have e := sortT_eq s a b
      have no : ¬ ((find s a).isSome = true ∧ (symOf s a).2.1.length = b.length ∧ sortL s b (symOf s a).2.1 = true) → 0 = (sortT s (Tree.mk a b)).getD 0 ∧ sortT s (Tree.mk a b) = none := fun h => by
        rw [e, if_neg h]; exact ⟨rfl, rfl⟩
      refine ⟨hg, fun h => no (fun h3 => by rw [h] at h3; cases h3.1), fun h => ⟨fun h2 => no (fun h3 => h2 (by omega)), fun h2 => ⟨⟨0, by simp, by omega, h, by simp, rfl⟩, fun k hk hb hf he => ⟨fun hlt => ?_, fun hge => ?_⟩⟩⟩⟩
      · rw [drop_get dT hlt, drop_get 0 (by omega : k < (symOf s a).2.1.length), sortL_cons] at he
        have bad : sortT s (b.getD k dT) ≠ some ((symOf s a).2.1.getD k 0) → 0 = (sortT s (Tree.mk a b)).getD 0 ∧ sortT s (Tree.mk a b) = none := fun h3 => no (fun h4 => by
          rw [decide_eq_false h3, Bool.false_and] at he
          rw [he] at h4; cases h4.2.2)
        refine ⟨hlt, hs, hg, (SmT.kids ht).mem (getD_mem dT hlt), by have := manyL_kids (getD_mem dT hlt); omega, fun h3 => bad (by rw [h3]; simp), fun h3 => ⟨by omega, fun h4 => bad (fun h5 => h4 (by rw [h5]; rfl)), fun h4 => ⟨k + 1, hlt, hb, hf, ?_, by omega, wrap_small (by omega) (by omega)⟩⟩⟩
        have h6 : sortT s (b.getD k dT) = some ((symOf s a).2.1.getD k 0) := by
          cases h7 : sortT s (b.getD k dT) with
          | none => rw [h7] at h3; cases h3
          | some m => rw [h7] at h4; simp only [Option.getD_some] at h4; rw [h4]
        rw [he, decide_eq_true h6, Bool.true_and]
      · rw [drop_end (by omega)] at he
        simp only [sortL] at he
        rw [e, if_pos ⟨hf, hb, he⟩]; exact ⟨rfl, rfl⟩)
theorem k_lOf : SoundC Tryz.prog K_lOf.1 K_lOf.2 := SoundC.fam (fun x => manyL x.2.2) fun n => k_l4Of n
theorem k_sOf : SoundC Tryz.prog K_sOf.1 K_sOf.2 := SoundC.fam (fun x => manyL x.2.2) fun n => k_sortOf n
theorem k_termSize (n : Nat) : SoundC Tryz.prog (K_termSize n).1 (K_termSize n).2 := by
  induction n with
  | zero => exact sound_of hm (CtxOK.nil.and k_iNameOk) (fun _ => []) (by kernel_rfl) fun (x : TP) hl => (by
      have h1 : SmT (.mk x.1 x.2) := hl.1
      clear hl
      rw [← vc_termSize0 x]
      obtain ⟨a, b⟩ := x
      dsimp only at *
      simp [-List.getD_eq_getElem?_getD, -List.mem_cons, -Bool.forall_bool, -Bool.exists_bool, and_assoc, peta, tl_inj, ex_1, ex_2, ex_3, ex_4, ex_5, ex_6, ex_7, ex_8, ex_9, ey_2, ey_3, ey_4, ey_5, ey_6, ey_7, ey_8, ey_9]
      exact ⟨(tm_size h1).1, fun _ => rfl, fun _ => ⟨fun _ => rfl, fun _ => rfl⟩⟩)
  | succ n ih => exact sound_of hm ((CtxOK.nil.and (K := K_termSize n) ih).and k_iNameOk) (fun x => A_termSize n x.1 x.2) (by kernel_rfl) fun (x : TP) hl => (by
      have h1 : SmT (.mk x.1 x.2) := hl.1
      have hn : n + 1 ≤ 4 := hl.2
      clear hl
      rw [← vc_termSize n x]
      obtain ⟨a, b⟩ := x
      dsimp only at *
      simp [-List.getD_eq_getElem?_getD, -List.mem_cons, -Bool.forall_bool, -Bool.exists_bool, and_assoc, peta, tl_inj, ex_1, ex_2, ex_3, ex_4, ex_5, ex_6, ex_7, ex_8, ex_9, ey_2, ey_3, ey_4, ey_5, ey_6, ey_7, ey_8, ey_9]
      obtain ⟨t1, t2⟩ := tm_size h1
      have et : tsz (n + 1) (.mk a b) = if (!nameOk a || decide (b.length > 2)) = true then 13 else 1 + sumN (tsz n) b := rfl
      have bad : (!nameOk a || decide (b.length > 2)) = true → (13 : Int) = tsz (n + 1) (.mk a b) := fun h => by
        rw [et, if_pos h]; rfl
      have good : nameOk a = true → b.length ≤ 2 → tsz (n + 1) (.mk a b) = 1 + sumN (tsz n) b := fun h h2 => by
        rw [et, if_neg]; simp [h]; omega
      refine ⟨t1, fun h => bad (by rw [h]; rfl), fun h => ⟨fun h2 => bad (by rw [decide_eq_true (by omega)]; simp), fun h2 => ⟨fun h3 => by omega, fun _ => ⟨⟨0, by simp, by omega, by simp [sumN], rfl⟩, fun k hk h2' => ⟨fun hlt => ?_, fun hge => ?_⟩⟩⟩⟩⟩
      · have ht := sumN_take (tsz n) dT hlt
        have hle := sumN_take_le (tsz n) b (k + 1)
        have h4 : sumN (tsz n) b ≤ b.length * 223 := sumN_le fun x _ => by
          have := tsz_le n x
          have : 2 ^ n ≤ 2 ^ 4 := Nat.pow_le_pow_right (by omega) (by omega)
          omega
        exact ⟨hlt, by rw [wrap_small (by omega) (by omega)]; omega, (SmT.kids h1).mem (getD_mem dT hlt), by omega, k + 1, hlt, h2', by omega, by rw [wrap_small (by omega) (by omega), ht]; omega, wrap_small (by omega) (by omega)⟩
      · rw [List.take_of_length_le hge, good h (by omega)]; omega)
theorem k_isTerm : SoundC Tryz.prog K_isTerm.1 K_isTerm.2 := sound_of hm (CtxOK.nil.and (K := K_termSize 4) (k_termSize 4)) (fun _ => []) (by kernel_rfl) fun (a, b) hl => cast (vc_isTerm a b) (by
  replace hl : SmT (.mk a b) := hl
  simp [-List.getD_eq_getElem?_getD, -List.mem_cons, -Bool.forall_bool, -Bool.exists_bool, and_assoc, peta, tl_inj, ex_1, ex_2, ex_3, ex_4, ex_5, ex_6, ex_7, ex_8, ex_9, ey_2, ey_3, ey_4, ey_5, ey_6, ey_7, ey_8, ey_9]
  refine ⟨hl, ?_⟩
  rw [← isTerm_right]
  unfold isTerm
  congr 1; simp only [eq_iff_iff]; omega)
theorem ts_no {s : Sig} {t : Tm} (h : (sigOk s && right t) = false) : 0 = (termSort s t).1 ∧ (termSort s t).2 = false := by
  unfold termSort; rw [h]; exact ⟨rfl, rfl⟩
theorem ts_yes {s : Sig} {t : Tm} (h1 : sigOk s = true) (h2 : right t = true) : termSort s t = ((sortT s t).getD 0, (sortT s t).isSome) := by
  unfold termSort; rw [h1, h2]; rfl
theorem k_iTermSort : SoundC Tryz.prog K_iTermSort.1 K_iTermSort.2 := sound_of hm (((CtxOK.nil.and k_sOf).and k_isTerm).and k_iSigOk) (fun _ => []) (by kernel_rfl) fun (s, a, b) hl => cast (vc_iTermSort s a b) (by
  obtain ⟨hg, ht⟩ : SmG s ∧ SmT (.mk a b) := hl
  simp [-List.getD_eq_getElem?_getD, -List.mem_cons, -Bool.forall_bool, -Bool.exists_bool, and_assoc, peta, tl_inj, ex_1, ex_2, ex_3, ex_4, ex_5, ex_6, ex_7, ex_8, ex_9, ey_2, ey_3, ey_4, ey_5, ey_6, ey_7, ey_8, ey_9]
  exact ⟨hg, fun h => ts_no (by rw [h]; rfl), fun h => ⟨ht, fun h2 => ts_no (by rw [h, h2]; rfl), fun h2 => ⟨h, hg, ht, by rw [ts_yes h h2], by rw [ts_yes h h2]⟩⟩⟩)
end Cg
