/-
  What the law leans on, part 4. No condition.
-/
import Derived.Test.YtmahkigckeaakaaProg
import Derived.Shelf.Strings.OnBuilder
import Derived.Test.YtmahkigckeaakaaFnModelTermB1
import Derived.Test.YtmahkigckeaakaaFnModelTermB2
import Derived.Test.YtmahkigckeaakaaFnModelTermB3
/-
  The codes' contracts: rows of rows, values of marks. No condition.
-/
set_option linter.unusedVariables false
set_option linter.unusedSimpArgs false
set_option maxRecDepth 100000
namespace Cg
open Go Go.Proofs

theorem idx_lt {α : Type} (p : α → Bool) : ∀ l : List α, -1 ≤ Pl.idx p l
  | [] => by simp [Pl.idx]
  | x :: l => by have := idx_lt p l; simp only [Pl.idx]; split <;> (try split) <;> omega

/-- One round of slices.IndexFunc. -/
theorem idx_step {α : Type} (d : α) (p : α → Bool) {l : List α} {k : Nat} (hk : k < l.length) (he : Pl.idx p l = if Pl.idx p (l.drop k) < 0 then -1 else Pl.idx p (l.drop k) + k) :
    (p (l.getD k d) = true → (k : Int) = Pl.idx p l) ∧ (p (l.getD k d) = false → Pl.idx p l = if Pl.idx p (l.drop (k + 1)) < 0 then -1 else Pl.idx p (l.drop (k + 1)) + ((k + 1 : Nat) : Int)) := by
  rw [drop_get d hk] at he
  have := idx_lt p (l.drop (k + 1))
  refine ⟨fun h => ?_, fun h => ?_⟩
  · rw [he]; simp only [Pl.idx, h, if_true]; simp
  · rw [he]
    simp only [Pl.idx, h, Bool.false_eq_true, if_false]
    split
    · simp
    · split <;> omega
theorem idx_init {α : Type} (p : α → Bool) (l : List α) : Pl.idx p l = if Pl.idx p (l.drop 0) < 0 then -1 else Pl.idx p (l.drop 0) + ((0 : Nat) : Int) := by
  have := idx_lt p l
  simp only [List.drop_zero]
  split <;> omega
theorem idx_end {α : Type} (p : α → Bool) {l : List α} {k : Nat} (hk : l.length ≤ k) (he : Pl.idx p l = if Pl.idx p (l.drop k) < 0 then -1 else Pl.idx p (l.drop k) + k) : -1 = Pl.idx p l := by
  rw [he, drop_end (by omega)]; simp [Pl.idx]

theorem idx_any {α : Type} (p : α → Bool) : ∀ l : List α, decide (Pl.idx p l ≥ 0) = l.any p
  | [] => by simp [Pl.idx]
  | x :: l => by
    have h := idx_any p l
    have := idx_lt p l
    simp only [Pl.idx, List.any_cons]
    by_cases hp : p x = true
    · simp [hp]
    · simp only [hp, Bool.false_eq_true, if_false, Bool.false_or]
      rw [← h]
      by_cases hq : Pl.idx p l < 0
      · rw [if_pos hq, decide_eq_false (by omega), decide_eq_false (by omega)]
      · rw [if_neg hq, decide_eq_true (by omega), decide_eq_true (by omega)]

end Cg

/-
  The codes' contracts: words. No condition.
-/
set_option linter.unusedVariables false
set_option linter.unusedSimpArgs false
set_option maxRecDepth 100000
namespace Pl
open Go Cg
theorem bs_len (s : ByteArray) : (bs s).length = s.size := rfl
theorem data_getD (s : ByteArray) (k : Nat) : s.data.getD k 0 = (bs s).getD k 0 := by
  unfold bs
  rw [Array.getD_eq_getD_getElem?, List.getD_eq_getElem?_getD, Array.getElem?_toList]
theorem data_getE (s : ByteArray) (k : Nat) : s.data[k]?.getD 0 = (bs s).getD k 0 := by
  rw [← data_getD, Array.getD_eq_getD_getElem?]
theorem sumN_take {α : Type} (f : α → Nat) (d : α) {l : List α} {k : Nat} (h : k < l.length) : sumN f (l.take (k + 1)) = sumN f (l.take k) + f (l.getD k d) := by
  rw [List.take_succ_eq_append_getElem h]
  have : ∀ (m : List α) (x : α), sumN f (m ++ [x]) = sumN f m + f x := by
    intro m x
    induction m with
    | nil => simp [sumN]
    | cons y r ih => simp only [List.cons_append, sumN, ih]; omega
  rw [this]; simp [h]
theorem sumN_take_le {α : Type} (f : α → Nat) (l : List α) (k : Nat) : sumN f (l.take k) ≤ sumN f l := by
  induction l generalizing k with
  | nil => simp
  | cons x r ih =>
    cases k with
    | zero => simp [sumN]
    | succ k => simp only [List.take_succ_cons, sumN]; have := ih k; omega
theorem sumN_mem {α : Type} (f : α → Nat) {x : α} : ∀ {l : List α}, x ∈ l → f x ≤ sumN f l
  | y :: r, h => by
    simp only [sumN]
    cases List.mem_cons.1 h with
    | inl e => subst e; omega
    | inr e => have := sumN_mem f e; omega
end Pl
namespace Cg
open Go Go.Proofs Pl

theorem SmG.mem {s : Sig} (h : SmG s) {x : Sym} (hx : x ∈ s) : x.1.size ≤ 1048576 ∧ x.2.1.length ≤ 1048576 := by
  have h1 : s.length + sumN costY s ≤ 1048576 := h
  have h2 := sumN_mem costY hx
  have h3 : costY x = x.1.size + x.2.1.length := rfl
  omega
theorem SmG.len {s : Sig} (h : SmG s) : s.length ≤ 1048576 := by
  have h1 : s.length + sumN costY s ≤ 1048576 := h
  omega

theorem name_step {s : ByteArray} {k : Nat} (hk : k < s.size) (he : (bs s).all lower = ((bs s).drop k).all lower) :
    ((((bs s).getD k 0).toNat : Int) < 97 → nameOk s = false) ∧ (122 < (((bs s).getD k 0).toNat : Int) → nameOk s = false) ∧ (97 ≤ (((bs s).getD k 0).toNat : Int) → (((bs s).getD k 0).toNat : Int) ≤ 122 → (bs s).all lower = ((bs s).drop (k + 1)).all lower) := by
  rw [drop_get 0 (by rw [bs_len]; exact hk), List.all_cons] at he
  have no : lower ((bs s).getD k 0) = false → nameOk s = false := fun h => by
    unfold nameOk; rw [he, h]; simp
  refine ⟨fun h => no (by simp [lower, h, -List.getD_eq_getElem?_getD]), fun h => no (by simp [lower, h, -List.getD_eq_getElem?_getD]), fun h1 h2 => ?_⟩
  have : lower ((bs s).getD k 0) = true := by
    unfold lower; rw [decide_eq_false (by omega), decide_eq_false (by omega)]; rfl
  rw [he, this, Bool.true_and]

theorem k_sNameOk : SoundC Try.prog K_sNameOk.1 K_sNameOk.2 := sound_of hm CtxOK.nil A_sNameOk (by kernel_rfl) fun (s : ByteArray) hl => cast (vc_sNameOk s) (by
  replace hl : s.size ≤ 1048576 := hl
  simp [-List.getD_eq_getElem?_getD, -List.mem_cons, -Bool.forall_bool, -Bool.exists_bool, and_assoc, peta, tl_inj, ex_1, ex_2, ex_3, ex_4, ex_5, ex_6, ex_7, ex_8, ex_9, ey_2, ey_3, ey_4, ey_5, ey_6, ey_7, ey_8, ey_9]
  simp only [data_getE]
  refine ⟨⟨0, by simp, by simp, rfl⟩, fun k hk he => ⟨fun hlt => ?_, fun hge => ?_⟩⟩
  · obtain ⟨h1, h2, h3⟩ := name_step hlt he
    exact ⟨hlt, h1, fun h4 => ⟨hlt, h2, fun h5 => ⟨k + 1, hlt, h3 h4 h5, by omega, wrap_small (by omega) (by omega)⟩⟩⟩
  · rw [drop_end (by rw [bs_len]; omega)] at he
    unfold nameOk
    rw [he]
    refine ⟨fun h => ?_, fun h => ?_⟩
    · rw [decide_eq_true (by omega : 1 ≤ s.size)]; simp; omega
    · rw [decide_eq_false (by omega : ¬ 1 ≤ s.size)]; rfl)

theorem k_iNameOk : SoundC Try.prog K_iNameOk.1 K_iNameOk.2 := sound_of hm (CtxOK.nil.and k_within) A_iNameOk (by kernel_rfl) fun (s : ByteArray) hl => cast (vc_iNameOk s) (by
  replace hl : s.size ≤ 1048576 := hl
  simp [-List.getD_eq_getElem?_getD, -List.mem_cons, -Bool.forall_bool, -Bool.exists_bool, and_assoc, peta, tl_inj, ex_1, ex_2, ex_3, ex_4, ex_5, ex_6, ex_7, ex_8, ex_9, ey_2, ey_3, ey_4, ey_5, ey_6, ey_7, ey_8, ey_9]
  simp only [data_getE]
  refine ⟨fun h => ?_, fun h => ?_⟩
  · simp only [withinI, Bool.and_eq_false_iff, decide_eq_false_iff_not] at h
    unfold nameOk
    rcases h with h | h
    · rw [decide_eq_false (by omega : ¬ 1 ≤ s.size)]; rfl
    · rw [decide_eq_false (by omega : ¬ s.size ≤ 2)]; simp
  · simp only [withinI, Bool.and_eq_true, decide_eq_true_eq] at h
    refine ⟨⟨0, by simp, by simp, rfl⟩, fun k hk he => ⟨fun hlt => ?_, fun hge => ?_⟩⟩
    · obtain ⟨h1, h2, h3⟩ := name_step hlt he
      exact ⟨hlt, h1, fun h4 => ⟨hlt, h2, fun h5 => ⟨k + 1, hlt, h3 h4 h5, by omega, wrap_small (by omega) (by omega)⟩⟩⟩
    · rw [drop_end (by rw [bs_len]; omega)] at he
      unfold nameOk
      rw [he, decide_eq_true (by omega : 1 ≤ s.size), decide_eq_true (by omega : s.size ≤ 2)]
      rfl)

theorem k_l4Sort : SoundC Try.prog K_l4Sort.1 K_l4Sort.2 := sound_of hm CtxOK.nil (fun _ => []) (by kernel_rfl) fun (x : Int) _ => cast (vc_l4Sort x) (by
  simp [-List.getD_eq_getElem?_getD, -List.mem_cons, -Bool.forall_bool, -Bool.exists_bool, and_assoc, peta, tl_inj, ex_1, ex_2, ex_3, ex_4, ex_5, ex_6, ex_7, ex_8, ex_9, ey_2, ey_3, ey_4, ey_5, ey_6, ey_7, ey_8, ey_9]
  exact ⟨fun h => by simp [isSort, h], fun h => by simp [isSort, h, Bool.beq_eq_decide_eq]⟩)
theorem k_isSort : SoundC Try.prog K_isSort.1 K_isSort.2 := sound_of hm CtxOK.nil (fun _ => []) (by kernel_rfl) fun (x : Int) _ => cast (vc_isSort x) (by
  simp [-List.getD_eq_getElem?_getD, -List.mem_cons, -Bool.forall_bool, -Bool.exists_bool, and_assoc, peta, tl_inj, ex_1, ex_2, ex_3, ex_4, ex_5, ex_6, ex_7, ex_8, ex_9, ey_2, ey_3, ey_4, ey_5, ey_6, ey_7, ey_8, ey_9]
  exact ⟨fun h => by simp [isSort, h], fun h => by simp [isSort, h, Bool.beq_eq_decide_eq]⟩)
theorem k_symok1 : SoundC Try.prog K_symok1.1 K_symok1.2 := sound_of hm (CtxOK.nil.and k_isSort) (fun _ => []) (by kernel_rfl) fun (x : Int) _ => cast (vc_symok1 x) (by
  simp [-List.getD_eq_getElem?_getD, -List.mem_cons, -Bool.forall_bool, -Bool.exists_bool, and_assoc, peta, tl_inj, ex_1, ex_2, ex_3, ex_4, ex_5, ex_6, ex_7, ex_8, ex_9, ey_2, ey_3, ey_4, ey_5, ey_6, ey_7, ey_8, ey_9])
theorem k_IndexSort : SoundC Try.prog K_IndexSort.1 K_IndexSort.2 := sound_of hm (CtxOK.nil.and k_symok1) A_IndexSort (by kernel_rfl) fun (l : List Int) hl => cast (vc_IndexSort l) (by
  replace hl : Sz l := hl
  simp [-List.getD_eq_getElem?_getD, -List.mem_cons, -Bool.forall_bool, -Bool.exists_bool, and_assoc, peta, tl_inj, ex_1, ex_2, ex_3, ex_4, ex_5, ex_6, ex_7, ex_8, ex_9, ey_2, ey_3, ey_4, ey_5, ey_6, ey_7, ey_8, ey_9]
  exact ⟨⟨0, by simp, idx_init _ _, rfl⟩, fun k hk he => ⟨fun hlt => ⟨hlt, fun h => (idx_step 0 _ hlt he).1 (by simp [h, -List.getD_eq_getElem?_getD]), fun h => ⟨k + 1, hlt, (idx_step 0 _ hlt he).2 (by simp [h, -List.getD_eq_getElem?_getD]), by omega, wrap_succ hlt hl⟩⟩, fun hge => idx_end _ hge he⟩⟩)
theorem k_ContainsSort : SoundC Try.prog K_ContainsSort.1 K_ContainsSort.2 := sound_of hm (CtxOK.nil.and k_IndexSort) (fun _ => []) (by kernel_rfl) fun (l : List Int) hl => cast (vc_ContainsSort l) (by
  replace hl : Sz l := hl
  simp only [idx_any]
  simp [-List.getD_eq_getElem?_getD, -List.mem_cons, -Bool.forall_bool, -Bool.exists_bool, and_assoc, peta, tl_inj, ex_1, ex_2, ex_3, ex_4, ex_5, ex_6, ex_7, ex_8, ex_9, ey_2, ey_3, ey_4, ey_5, ey_6, ey_7, ey_8, ey_9]
  exact hl)
theorem all_any {α : Type} (p : α → Bool) (l : List α) : l.all p = !(l.any fun y => !p y) := by
  induction l with
  | nil => rfl
  | cons x r ih => simp only [List.all_cons, List.any_cons, ih]; cases p x <;> rfl

theorem k_symok : SoundC Try.prog K_symok.1 K_symok.2 := sound_of hm (((CtxOK.nil.and k_ContainsSort).and k_isSort).and k_iNameOk) (fun _ => []) (by kernel_rfl) fun (x : Sym) hl => cast (vc_symok x) (by
  obtain ⟨h1, h2⟩ : x.1.size ≤ 1048576 ∧ Sz x.2.1 := hl
  simp [-List.getD_eq_getElem?_getD, -List.mem_cons, -Bool.forall_bool, -Bool.exists_bool, and_assoc, peta, tl_inj, ex_1, ex_2, ex_3, ex_4, ex_5, ex_6, ex_7, ex_8, ex_9, ey_2, ey_3, ey_4, ey_5, ey_6, ey_7, ey_8, ey_9]
  refine ⟨h1, fun h3 => ⟨fun h4 => ⟨fun h5 => ⟨h2, ?_⟩, fun h5 => by simp [symOk, h5]⟩, fun h4 => ?_⟩, fun h3 => by simp [symOk, h3]⟩
  · unfold symOk
    rw [h3, h5, decide_eq_true (by omega : x.2.1.length ≤ 2), all_any]; simp
  · unfold symOk
    rw [decide_eq_false (by omega : ¬ x.2.1.length ≤ 2)]; simp)

theorem sig_step {s : Sig} {k : Nat} (hk : k < s.length) (he : sigL none s = sigL (prevS s k) (s.drop k)) :
    (symOk (s.getD k dY) = false → sigOk s = false) ∧ (before (prevS s k) (s.getD k dY).1 = false → sigOk s = false) ∧ (symOk (s.getD k dY) = true → before (prevS s k) (s.getD k dY).1 = true → sigL none s = sigL (prevS s (k + 1)) (s.drop (k + 1))) := by
  rw [drop_get dY hk] at he
  simp only [sigL] at he
  refine ⟨fun h => ?_, fun h => ?_, fun h1 h2 => ?_⟩
  · unfold sigOk; rw [he, h]; simp
  · unfold sigOk; rw [he, h]; simp
  · rw [he, h1, h2]
    simp [prevS, -List.getD_eq_getElem?_getD]
theorem sig_end {s : Sig} {k : Nat} (hk : s.length ≤ k) (he : sigL none s = sigL (prevS s k) (s.drop k)) : sigOk s = decide ((s.length : Int) ≤ 7) := by
  rw [drop_end (by omega)] at he
  unfold sigOk
  rw [he]
  simp only [sigL, Bool.true_and]
  congr 1
  simp only [eq_iff_iff]; omega

theorem sSigOk_inner {s : Sig} (hl : SmG s) {k : Nat} (hlt : k < s.length) (he : sigL none s = sigL (prevS s k) (s.drop k)) (h1 : nameOk (s.getD k dY).1 = true) (h2 : (s.getD k dY).2.1.length ≤ 2) (h3 : isSort (s.getD k dY).2.2 = true) (h4 : before (prevS s k) (s.getD k dY).1 = true) :
    k < s.length ∧
      (∃ x_1, x_1 ≤ (s.getD k dY).2.1.length ∧ (s.getD k dY).2.1.all isSort = ((s.getD k dY).2.1.drop x_1).all isSort ∧ nameOk (s.getD k dY).1 = true ∧ (s.getD k dY).2.1.length ≤ 2 ∧ isSort (s.getD k dY).2.2 = true ∧ before (prevS s k) (s.getD k dY).1 = true ∧ (0 : Int) = (x_1 : Int)) ∧
      ∀ (j : Nat), k < s.length → j ≤ (s.getD k dY).2.1.length → (s.getD k dY).2.1.all isSort = ((s.getD k dY).2.1.drop j).all isSort → nameOk (s.getD k dY).1 = true → (s.getD k dY).2.1.length ≤ 2 → isSort (s.getD k dY).2.2 = true → before (prevS s k) (s.getD k dY).1 = true →
        (j < (s.getD k dY).2.1.length → j < (s.getD k dY).2.1.length ∧ (isSort ((s.getD k dY).2.1.getD j 0) = false → sigOk s = false) ∧
          (isSort ((s.getD k dY).2.1.getD j 0) = true → k < s.length ∧ ∃ x_1, x_1 ≤ (s.getD k dY).2.1.length ∧ (s.getD k dY).2.1.all isSort = ((s.getD k dY).2.1.drop x_1).all isSort ∧ nameOk (s.getD k dY).1 = true ∧ (s.getD k dY).2.1.length ≤ 2 ∧ isSort (s.getD k dY).2.2 = true ∧ before (prevS s k) (s.getD k dY).1 = true ∧ (s.getD k dY).2.1.length - x_1 < (s.getD k dY).2.1.length - j ∧ IntKind.i64.wrap ((j : Int) + 1) = (x_1 : Int))) ∧
        ((s.getD k dY).2.1.length ≤ j → ∃ x', x' ≤ s.length ∧ sigL none s = sigL (prevS s x') (s.drop x') ∧ s.length - x' < s.length - k ∧ IntKind.i64.wrap ((k : Int) + 1) = (x' : Int)) := by
  have hlen := hl.len
  obtain ⟨e1, e2, e3⟩ := sig_step hlt he
  refine ⟨hlt, ⟨0, by simp, by simp, h1, h2, h3, h4, rfl⟩, fun j _ hj hj2 _ _ _ _ => ⟨fun hjl => ⟨hjl, fun h => ?_, fun h => ⟨hlt, j + 1, hjl, ?_, h1, h2, h3, h4, by omega, wrap_small (by omega) (by omega)⟩⟩, fun hge => ⟨k + 1, hlt, e3 ?_ h4, by omega, wrap_small (by omega) (by omega)⟩⟩⟩
  · rw [drop_get 0 hjl, List.all_cons, h, Bool.false_and] at hj2
    exact e1 (by unfold symOk; rw [hj2]; simp)
  · rw [hj2, drop_get 0 hjl, List.all_cons, h, Bool.true_and]
  · rw [drop_end (by omega)] at hj2
    unfold symOk
    rw [hj2, h1, h3, decide_eq_true h2]; rfl

theorem k_sSigOk : SoundC Try.prog K_sSigOk.1 K_sSigOk.2 := sound_of hm ((CtxOK.nil.and k_l4Sort).and k_sNameOk) A_sSigOk (by kernel_rfl) fun (s : Sig) hl => cast (vc_sSigOk s) (by
  replace hl : SmG s := hl
  simp [-List.getD_eq_getElem?_getD, -List.mem_cons, -Bool.forall_bool, -Bool.exists_bool, and_assoc, peta, tl_inj, ex_1, ex_2, ex_3, ex_4, ex_5, ex_6, ex_7, ex_8, ex_9, ey_2, ey_3, ey_4, ey_5, ey_6, ey_7, ey_8, ey_9]
  have hlen := hl.len
  refine ⟨⟨0, by simp, by simp [prevS], rfl⟩, fun k hk he => ⟨fun hlt => ?_, fun hge => (sig_end hge he).symm⟩⟩
  obtain ⟨m1, m2⟩ := hl.mem (getD_mem dY hlt)
  obtain ⟨e1, e2, e3⟩ := sig_step hlt he
  have inner : nameOk (s.getD k dY).1 = true → (s.getD k dY).2.1.length ≤ 2 → isSort (s.getD k dY).2.2 = true → before (prevS s k) (s.getD k dY).1 = true → _ := sSigOk_inner hl hlt he
  refine ⟨hlt, m1, fun h => e1 (by unfold symOk; rw [h]; rfl), fun h1 => ⟨fun h => e1 ?_, fun h2 => ⟨fun h => e1 (by unfold symOk; rw [h]; simp), fun h3 => ⟨fun h4 => ?_, fun h4 => inner h1 (by omega) h3 (by rw [h4]; rfl)⟩⟩⟩⟩
  · unfold symOk; rw [decide_eq_false (by omega : ¬ (s.getD k dY).2.1.length ≤ 2)]; simp
  · rw [wrap_small (by omega) (by omega)]
    have e : ((k : Int) - 1).toNat = k - 1 := by omega
    rw [e]
    have hb : before (prevS s k) (s.getD k dY).1 = Op.bytesLess (s.getD (k - 1) dY).1.toList (s.getD k dY).1.toList := by
      unfold prevS; rw [if_neg (by omega)]; rfl
    exact ⟨by omega, by omega, by omega, fun h => e2 (by rw [hb, h]), fun h => inner h1 (by omega) h3 (by rw [hb, h])⟩)

theorem k_iSigOk : SoundC Try.prog K_iSigOk.1 K_iSigOk.2 := sound_of hm (CtxOK.nil.and k_symok) A_iSigOk (by kernel_rfl) fun (s : Sig) hl => cast (vc_iSigOk s) (by
  replace hl : SmG s := hl
  simp [-List.getD_eq_getElem?_getD, -List.mem_cons, -Bool.forall_bool, -Bool.exists_bool, and_assoc, peta, tl_inj, ex_1, ex_2, ex_3, ex_4, ex_5, ex_6, ex_7, ex_8, ex_9, ey_2, ey_3, ey_4, ey_5, ey_6, ey_7, ey_8, ey_9]
  have hlen := hl.len
  refine ⟨⟨0, by simp, by simp [prevS], rfl⟩, fun k hk he => ⟨fun hlt => ?_, fun hge => (sig_end hge he).symm⟩⟩
  obtain ⟨m1, m2⟩ := hl.mem (getD_mem dY hlt)
  obtain ⟨e1, e2, e3⟩ := sig_step hlt he
  refine ⟨hlt, m1, by omega, e1, fun h1 => ⟨fun h4 => ?_, fun h4 => ⟨k + 1, hlt, e3 h1 (by rw [h4]; rfl), by omega, wrap_small (by omega) (by omega)⟩⟩⟩
  rw [wrap_small (by omega) (by omega)]
  have e : ((k : Int) - 1).toNat = k - 1 := by omega
  rw [e]
  have hb : before (prevS s k) (s.getD k dY).1 = Op.bytesLess (s.getD (k - 1) dY).1.toList (s.getD k dY).1.toList := by
    unfold prevS; rw [if_neg (by omega)]; rfl
  exact ⟨by omega, by omega, by omega, fun h => e2 (by rw [hb, h]), fun h => ⟨k + 1, hlt, e3 h1 (by rw [hb, h]), by omega, wrap_small (by omega) (by omega)⟩⟩)

end Cg

/-
  The codes' contracts: terms. No condition.
-/
set_option linter.unusedVariables false
set_option linter.unusedSimpArgs false
set_option maxRecDepth 100000
set_option maxHeartbeats 4000000
namespace Pl
open Go Cg
theorem manyL_kids {l : List Tm} {t : Tm} (h : t ∈ l) : manyL t.kids < manyL l := by
  have := many_mem h
  have := t.many_eq
  omega
end Pl
namespace Cg
open Go Go.Proofs Pl
theorem SmTs.mem {l : List Tm} (h : SmTs l) {t : Tm} (ht : t ∈ l) : SmT t := by
  have := costT_mem ht
  have h1 : l.length + costTs l ≤ 1048576 := h
  show costT t ≤ 1048576
  omega
theorem SmTs.len {l : List Tm} (h : SmTs l) : l.length ≤ 1048576 := by
  have h1 : l.length + costTs l ≤ 1048576 := h
  omega
theorem SmT.kids {v : ByteArray} {ks : List Tm} (h : SmT (.mk v ks)) : SmTs ks := by
  have h1 : costT (.mk v ks) ≤ 1048576 := h
  rw [costT_eq] at h1
  simp only [Tree.val, Tree.kids] at h1
  show ks.length + costTs ks ≤ 1048576
  omega

end Cg

/-
  The codes' contracts: the sorts of terms. No condition.
-/
set_option linter.unusedVariables false
set_option linter.unusedSimpArgs false
set_option maxRecDepth 100000
set_option maxHeartbeats 1000000
namespace Pl
open Go Cg
theorem sumN_congr {α : Type} {f g : α → Nat} : ∀ {l : List α}, (∀ x ∈ l, f x = g x) → sumN f l = sumN g l
  | [], _ => rfl
  | x :: r, h => by simp only [sumN]; rw [h x List.mem_cons_self, sumN_congr fun y hy => h y (List.mem_cons_of_mem _ hy)]
theorem sumN_le {α : Type} {f : α → Nat} {b : Nat} : ∀ {l : List α}, (∀ x ∈ l, f x ≤ b) → sumN f l ≤ l.length * b
  | [], _ => Nat.zero_le _
  | x :: r, h => by
    simp only [sumN, List.length_cons, Nat.add_mul, Nat.one_mul]
    have := h x List.mem_cons_self
    have := sumN_le (l := r) fun y hy => h y (List.mem_cons_of_mem _ hy)
    omega
theorem tsz_shape : ∀ (n : Nat) (t : Tm), (shape n t = true → tsz n t = manyD n t) ∧ (shape n t = false → 13 ≤ tsz n t)
  | 0, t => ⟨fun h => (by simp [shape] at h), fun _ => Nat.le_refl _⟩
  | n + 1, t => by
    simp only [shape, tsz, manyD]
    cases h1 : nameOk t.val
    · simp
    · by_cases h2 : t.kids.length ≤ 2
      · have h2' : ¬ t.kids.length > 2 := by omega
        rw [decide_eq_true h2, decide_eq_false h2']
        simp only [Bool.not_true, Bool.or_self, Bool.false_eq_true, if_false, Bool.and_self, Bool.true_and]
        refine ⟨fun h => ?_, fun h => ?_⟩
        · rw [sumN_congr fun x hx => (tsz_shape n x).1 (List.all_eq_true.1 h x hx)]
        · obtain ⟨x, hx, h3⟩ := List.all_eq_false.1 h
          have h4 := (tsz_shape n x).2 (by simpa using h3)
          have h5 := sumN_mem (tsz n) hx
          omega
      · have h2' : t.kids.length > 2 := by omega
        rw [decide_eq_false h2, decide_eq_true h2']
        simp
theorem isTerm_right (t : Tm) : isTerm t = right t := by
  obtain ⟨h1, h2⟩ := tsz_shape 4 t
  unfold isTerm right
  cases h : shape 4 t
  · rw [Bool.false_and]; exact decide_eq_false (by have := h2 h; omega)
  · rw [h1 h, Bool.true_and]
theorem tsz_le : ∀ (n : Nat) (t : Tm), tsz n t + 1 ≤ 14 * 2 ^ n
  | 0, t => by simp [tsz]
  | n + 1, t => by
    have h0 : 1 ≤ 2 ^ n := Nat.one_le_two_pow
    simp only [tsz, Nat.pow_succ]
    split
    · omega
    · rename_i h
      have h2 : t.kids.length ≤ 2 := by
        simp only [Bool.or_eq_true, decide_eq_true_eq] at h; omega
      have h3 : sumN (tsz n) t.kids ≤ t.kids.length * (14 * 2 ^ n - 1) := sumN_le fun x _ => by have := tsz_le n x; omega
      have h4 : t.kids.length * (14 * 2 ^ n - 1) ≤ 2 * (14 * 2 ^ n - 1) := Nat.mul_le_mul_right _ h2
      omega
theorem manyD_le : ∀ (n : Nat) (t : Tm), manyD n t ≤ 1 + costT t
  | 0, t => by simp [manyD]
  | n + 1, t => by
    simp only [manyD]
    rw [costT_eq]
    have : ∀ l : List Tm, sumN (manyD n) l ≤ l.length + costTs l := by
      intro l
      induction l with
      | nil => simp [sumN]
      | cons x r ih => simp only [sumN, costTs, List.length_cons]; have := manyD_le n x; omega
    have := this t.kids
    omega
theorem sigL_mem : ∀ {s : Sig} {p : Option ByteArray}, sigL p s = true → ∀ y ∈ s, symOk y = true
  | x :: r, p, h, y, hy => by
    simp only [sigL, Bool.and_eq_true] at h
    cases List.mem_cons.1 hy with
    | inl e => subst e; exact h.1.1
    | inr e => exact sigL_mem h.2 y e
theorem sigOk_mem {s : Sig} (h : sigOk s = true) {y : Sym} (hy : y ∈ s) : symOk y = true := by
  simp only [sigOk, Bool.and_eq_true] at h
  exact sigL_mem h.1 y hy
theorem find_mem {s : Sig} {nm : ByteArray} (h : (find s nm).isSome = true) : symOf s nm ∈ s := by
  unfold symOf
  cases h2 : find s nm with
  | none => rw [h2] at h; cases h
  | some y => exact List.mem_of_find?_eq_some h2
theorem isSort_iff {n : Int} : isSort n = true ↔ n = 0 ∨ n = 1 := by simp [isSort]
theorem sortT_eq (s : Sig) (a : ByteArray) (b : List Tm) : sortT s (.mk a b) = if (find s a).isSome = true ∧ (symOf s a).2.1.length = b.length ∧ sortL s b (symOf s a).2.1 = true then some (symOf s a).2.2 else none := by
  simp only [sortT]
  unfold symOf
  cases h : find s a with
  | none => simp
  | some y => simp only [Option.getD_some, Option.isSome_some, true_and]; split <;> split <;> simp_all
theorem sortT_sort {s : Sig} (hs : sigOk s = true) {t : Tm} {n : Int} (h : sortT s t = some n) : n = 0 ∨ n = 1 := by
  cases t with
  | mk a b =>
    rw [sortT_eq] at h
    split at h
    · rename_i h1
      cases h
      have := sigOk_mem hs (find_mem h1.1)
      simp only [symOk, Bool.and_eq_true] at this
      exact isSort_iff.1 this.1.2
    · cases h
theorem sortL_cons (s : Sig) (t : Tm) (ts : List Tm) (n : Int) (ns : List Int) : sortL s (t :: ts) (n :: ns) = (decide (sortT s t = some n) && sortL s ts ns) := by
  conv => lhs; unfold sortL
  rfl
theorem find_step {s : Sig} {nm : ByteArray} {k : Nat} (hk : k < s.length) (he : find s nm = find (s.drop k) nm) : ((s.getD k dY).1 = nm → find s nm = some (s.getD k dY)) ∧ ((s.getD k dY).1 ≠ nm → find s nm = find (s.drop (k + 1)) nm) := by
  rw [drop_get dY hk] at he
  unfold find at he ⊢
  rw [List.find?_cons] at he
  refine ⟨fun h => ?_, fun h => ?_⟩
  · rw [he]; simp only [h, decide_true]
  · rw [he]; simp only [h, decide_false]
end Pl
namespace Cg
open Go Go.Proofs Pl

theorem tm_size {a : ByteArray} {b : List Tm} (h : SmT (.mk a b)) : a.size ≤ 1048576 ∧ b.length ≤ 1048576 := by
  have h1 : costT (.mk a b) ≤ 1048576 := h
  rw [costT_eq] at h1
  simp only [Tree.val, Tree.kids] at h1
  omega

theorem k_l4Shape (n : Nat) : SoundC Try.prog (K_l4Shape n).1 (K_l4Shape n).2 := by
  induction n with
  | zero => exact sound_of hm (CtxOK.nil.and k_sNameOk) (fun _ => []) (by kernel_rfl) fun (x : TP) hl => (by
      rw [← vc_l4Shape0 x]
      simp [-List.getD_eq_getElem?_getD, -List.mem_cons, -Bool.forall_bool, -Bool.exists_bool, and_assoc, peta, tl_inj, ex_1, ex_2, ex_3, ex_4, ex_5, ex_6, ex_7, ex_8, ex_9, ey_2, ey_3, ey_4, ey_5, ey_6, ey_7, ey_8, ey_9]
      rfl)
  | succ n ih => exact sound_of hm ((CtxOK.nil.and (K := K_l4Shape n) ih).and k_sNameOk) (fun x => A_l4Shape n x.1 x.2) (by kernel_rfl) fun (x : TP) hl => (by
      have h1 : SmT (.mk x.1 x.2) := hl.1
      have hn : n + 1 ≤ 10 := hl.2
      clear hl
      rw [← vc_l4Shape n x]
      obtain ⟨a, b⟩ := x
      dsimp only at *
      simp [-List.getD_eq_getElem?_getD, -List.mem_cons, -Bool.forall_bool, -Bool.exists_bool, and_assoc, peta, tl_inj, ex_1, ex_2, ex_3, ex_4, ex_5, ex_6, ex_7, ex_8, ex_9, ey_2, ey_3, ey_4, ey_5, ey_6, ey_7, ey_8, ey_9]
      obtain ⟨t1, t2⟩ := tm_size h1
      have k1 := (SmT.kids h1).len
      have e : Pl.shape (n + 1) (Tree.mk a b) = (nameOk a && decide (b.length ≤ 2) && b.all (Pl.shape n)) := rfl
      refine ⟨t1, fun h => by rw [e, h]; rfl, fun h => ⟨fun h2 => by rw [e, decide_eq_false (by omega)]; simp, fun h2 => ⟨⟨0, by simp, by rw [e, h, decide_eq_true (by omega)]; simp, rfl⟩, fun k hk he => ⟨fun hlt => ?_, fun hge => by rw [he, drop_end (by omega)]; rfl⟩⟩⟩⟩
      rw [drop_get dT hlt, List.all_cons] at he
      exact ⟨hlt, wrap_small (by omega) (by omega), (SmT.kids h1).mem (getD_mem dT hlt), by omega, fun h3 => by rw [he, h3]; rfl, fun h3 => ⟨k + 1, hlt, by rw [he, h3, Bool.true_and], by omega, wrap_small (by omega) (by omega)⟩⟩)

theorem k_l4Many (n : Nat) : SoundC Try.prog (K_l4Many n).1 (K_l4Many n).2 := by
  induction n with
  | zero => exact sound_of hm CtxOK.nil (fun x => A_l4Many0 x.1 x.2) (by kernel_rfl) fun (x : TP) hl => (by
      clear hl
      rw [← vc_l4Many0 x]
      obtain ⟨a, b⟩ := x
      dsimp only at *
      simp [-List.getD_eq_getElem?_getD, -List.mem_cons, -Bool.forall_bool, -Bool.exists_bool, and_assoc, peta, tl_inj, ex_1, ex_2, ex_3, ex_4, ex_5, ex_6, ex_7, ex_8, ex_9, ey_2, ey_3, ey_4, ey_5, ey_6, ey_7, ey_8, ey_9]
      simp [manyD])
  | succ n ih => exact sound_of hm (CtxOK.nil.and (K := K_l4Many n) ih) (fun x => A_l4Many n x.1 x.2) (by kernel_rfl) fun (x : TP) hl => (by
      have h1 : SmT (.mk x.1 x.2) := hl.1
      have hn : n + 1 ≤ 10 := hl.2
      clear hl
      rw [← vc_l4Many n x]
      obtain ⟨a, b⟩ := x
      dsimp only at *
      simp [-List.getD_eq_getElem?_getD, -List.mem_cons, -Bool.forall_bool, -Bool.exists_bool, and_assoc, peta, tl_inj, ex_1, ex_2, ex_3, ex_4, ex_5, ex_6, ex_7, ex_8, ex_9, ey_2, ey_3, ey_4, ey_5, ey_6, ey_7, ey_8, ey_9]
      have k1 := (SmT.kids h1).len
      have bnd : ∀ k, 1 + sumN (manyD n) (b.take k) ≤ 1 + costT (.mk a b) := fun k => by
        have := sumN_take_le (manyD n) b k
        have h2 := manyD_le (n + 1) (.mk a b)
        simp only [manyD, Tree.kids] at h2
        omega
      have h1' : costT (.mk a b) ≤ 1048576 := h1
      refine ⟨⟨0, by simp, by simp [sumN], rfl⟩, fun k hk => ⟨fun hlt => ?_, fun hge => ?_⟩⟩
      · have ht := sumN_take (manyD n) dT hlt
        have := bnd (k + 1)
        exact ⟨hlt, wrap_small (by omega) (by omega), (SmT.kids h1).mem (getD_mem dT hlt), by omega, k + 1, hlt, by omega, by rw [wrap_small (by omega) (by omega), ht]; omega, wrap_small (by omega) (by omega)⟩
      · rw [List.take_of_length_le hge]; simp [manyD])

theorem k_l4Right : SoundC Try.prog K_l4Right.1 K_l4Right.2 := sound_of hm ((CtxOK.nil.and (K := K_l4Many 4) (k_l4Many 4)).and (K := K_l4Shape 4) (k_l4Shape 4)) (fun _ => []) (by kernel_rfl) fun (a, b) hl => cast (vc_l4Right a b) (by
  replace hl : SmT (.mk a b) := hl
  simp [-List.getD_eq_getElem?_getD, -List.mem_cons, -Bool.forall_bool, -Bool.exists_bool, and_assoc, peta, tl_inj, ex_1, ex_2, ex_3, ex_4, ex_5, ex_6, ex_7, ex_8, ex_9, ey_2, ey_3, ey_4, ey_5, ey_6, ey_7, ey_8, ey_9]
  exact ⟨hl, fun h => ⟨hl, by unfold right; rw [h, Bool.true_and]; congr 1; simp only [eq_iff_iff]; omega⟩, fun h => by unfold right; rw [h]; rfl⟩)
theorem k_l4Find : SoundC Try.prog K_l4Find.1 K_l4Find.2 := sound_of hm CtxOK.nil (fun (s, nm) => A_l4Find s nm) (by kernel_rfl) fun (s, nm) hl => cast (vc_l4Find s nm) (by
  replace hl : SmG s := hl
  simp [-List.getD_eq_getElem?_getD, -List.mem_cons, -Bool.forall_bool, -Bool.exists_bool, and_assoc, peta, tl_inj, ex_1, ex_2, ex_3, ex_4, ex_5, ex_6, ex_7, ex_8, ex_9, ey_2, ey_3, ey_4, ey_5, ey_6, ey_7, ey_8, ey_9]
  have hlen := hl.len
  refine ⟨⟨0, by simp, by simp, rfl, rfl⟩, fun k hk he => ⟨fun hlt => ⟨hlt, fun h => ?_, fun h => ⟨k + 1, hlt, (find_step hlt he).2 h, by omega, wrap_small (by omega) (by omega)⟩⟩, fun hge => ?_⟩⟩
  · have := (find_step hlt he).1 h
    unfold symOf
    rw [this]
    exact ⟨hlt, rfl, rfl, rfl, rfl⟩
  · rw [drop_end (by omega)] at he
    unfold symOf
    rw [he]
    exact ⟨rfl, rfl, rfl, rfl⟩)
theorem k_symbol : SoundC Try.prog K_symbol.1 K_symbol.2 := sound_of hm CtxOK.nil (fun (s, nm) => A_symbol s nm) (by kernel_rfl) fun (s, nm) hl => cast (vc_symbol s nm) (by
  replace hl : SmG s := hl
  simp [-List.getD_eq_getElem?_getD, -List.mem_cons, -Bool.forall_bool, -Bool.exists_bool, and_assoc, peta, tl_inj, ex_1, ex_2, ex_3, ex_4, ex_5, ex_6, ex_7, ex_8, ex_9, ey_2, ey_3, ey_4, ey_5, ey_6, ey_7, ey_8, ey_9]
  have hlen := hl.len
  refine ⟨⟨0, by simp, by simp, rfl, rfl⟩, fun k hk he => ⟨fun hlt => ⟨hlt, fun h => ?_, fun h => ⟨k + 1, hlt, (find_step hlt he).2 h, by omega, wrap_small (by omega) (by omega)⟩⟩, fun hge => ?_⟩⟩
  · have := (find_step hlt he).1 h
    unfold symOf
    rw [this]
    exact ⟨rfl, rfl, rfl, rfl⟩
  · rw [drop_end (by omega)] at he
    unfold symOf
    rw [he]
    exact ⟨rfl, rfl, rfl, rfl⟩)
theorem k_l4Of (n : Nat) : SoundC Try.prog (K_l4Of n).1 (K_l4Of n).2 := by
  induction n with
  | zero => exact sound_of hm CtxOK.nil (fun _ => []) (by kernel_rfl) fun x h => absurd h.2 (Nat.not_lt_zero _)
  | succ n ih => exact sound_of hm ((CtxOK.nil.and (K := K_l4Of n) ih).and k_l4Find) (fun x => A_l4Of x.1 x.2.1 x.2.2) (by kernel_rfl) fun (x : Sig × TP) hl => (by
      have hs : sigOk x.1 = true := hl.1.1
      have hg : SmG x.1 := hl.1.2.1
      have ht : SmT (.mk x.2.1 x.2.2) := hl.1.2.2
      have hn : manyL x.2.2 < n + 1 := hl.2
      clear hl
      rw [← vc_l4Of n x]
      obtain ⟨s, a, b⟩ := x
      dsimp only at *
      simp [-List.getD_eq_getElem?_getD, -List.mem_cons, -Bool.forall_bool, -Bool.exists_bool, and_assoc, peta, tl_inj, ex_1, ex_2, ex_3, ex_4, ex_5, ex_6, ex_7, ex_8, ex_9, ey_2, ey_3, ey_4, ey_5, ey_6, ey_7, ey_8, ey_9]
      have k1 := (SmT.kids ht).len
      have e := sortT_eq s a b
      refine ⟨hg, fun h => by rw [e, h]; rfl, fun h => ⟨fun h2 => by rw [e, if_neg (fun h3 => h2 (by omega))]; rfl, fun h2 => ⟨⟨0, by simp, by omega, h, by simp, rfl⟩, fun k hk hb hf he => ⟨fun hlt => ?_, fun hge => ?_⟩⟩⟩⟩
      · have hy := sigOk_mem hs (find_mem hf)
        simp only [symOk, Bool.and_eq_true] at hy
        have hz := isSort_iff.1 (List.all_eq_true.1 hy.2 _ (getD_mem 0 (by omega : k < (symOf s a).2.1.length)))
        rw [drop_get dT hlt, drop_get 0 (by omega : k < (symOf s a).2.1.length)] at he
        rw [sortL_cons] at he
        have key : (sortT s (b.getD k dT)).getD (-1) = (symOf s a).2.1.getD k 0 ↔ sortT s (b.getD k dT) = some ((symOf s a).2.1.getD k 0) := by
          cases sortT s (b.getD k dT) with
          | none => exact ⟨fun h => by simp only [Option.getD_none] at h; omega, fun h => by cases h⟩
          | some m => simp
        refine ⟨hlt, hs, hg, (SmT.kids ht).mem (getD_mem dT hlt), by have := manyL_kids (getD_mem dT hlt); omega, by omega, fun h3 => ?_, fun h3 => ⟨k + 1, hlt, hb, hf, ?_, by omega, wrap_small (by omega) (by omega)⟩⟩
        · rw [decide_eq_false (fun h4 => h3 (key.2 h4)), Bool.false_and] at he
          rw [e, if_neg (fun h5 => by rw [he] at h5; cases h5.2.2)]; rfl
        · rw [he, decide_eq_true (key.1 h3), Bool.true_and]
      · rw [drop_end (by omega)] at he
        simp only [sortL] at he
        rw [e, if_pos ⟨hf, hb, he⟩]; rfl)
theorem k_sortOf (n : Nat) : SoundC Try.prog (K_sortOf n).1 (K_sortOf n).2 := by
  induction n with
  | zero => exact sound_of hm CtxOK.nil (fun _ => []) (by kernel_rfl) fun x h => absurd h.2 (Nat.not_lt_zero _)
  | succ n ih => exact sound_of hm ((CtxOK.nil.and (K := K_sortOf n) ih).and k_symbol) (fun x => A_sortOf x.1 x.2.1 x.2.2) (by kernel_rfl) fun (x : Sig × TP) hl => (by
      have hs : sigOk x.1 = true := hl.1.1
      have hg : SmG x.1 := hl.1.2.1
      have ht : SmT (.mk x.2.1 x.2.2) := hl.1.2.2
      have hn : manyL x.2.2 < n + 1 := hl.2
      clear hl
      rw [← vc_sortOf n x]
      obtain ⟨s, a, b⟩ := x
      dsimp only at *
      simp [-List.getD_eq_getElem?_getD, -List.mem_cons, -Bool.forall_bool, -Bool.exists_bool, and_assoc, peta, tl_inj, ex_1, ex_2, ex_3, ex_4, ex_5, ex_6, ex_7, ex_8, ex_9, ey_2, ey_3, ey_4, ey_5, ey_6, ey_7, ey_8, ey_9]
      have k1 := (SmT.kids ht).len
      have e := sortT_eq s a b
      have no : ¬ ((find s a).isSome = true ∧ (symOf s a).2.1.length = b.length ∧ sortL s b (symOf s a).2.1 = true) → 0 = (sortT s (Tree.mk a b)).getD 0 ∧ sortT s (Tree.mk a b) = none := fun h => by
        rw [e, if_neg h]; exact ⟨rfl, rfl⟩
      refine ⟨hg, fun h => no (fun h3 => by rw [h] at h3; cases h3.1), fun h => ⟨fun h2 => no (fun h3 => h2 (by omega)), fun h2 => ⟨⟨0, by simp, by omega, h, by simp, rfl⟩, fun k hk hb hf he => ⟨fun hlt => ?_, fun hge => ?_⟩⟩⟩⟩
      · rw [drop_get dT hlt, drop_get 0 (by omega : k < (symOf s a).2.1.length), sortL_cons] at he
        have bad : sortT s (b.getD k dT) ≠ some ((symOf s a).2.1.getD k 0) → 0 = (sortT s (Tree.mk a b)).getD 0 ∧ sortT s (Tree.mk a b) = none := fun h3 => no (fun h4 => by
          rw [decide_eq_false h3, Bool.false_and] at he
          rw [he] at h4; cases h4.2.2)
        refine ⟨hlt, hs, hg, (SmT.kids ht).mem (getD_mem dT hlt), by have := manyL_kids (getD_mem dT hlt); omega, fun h3 => bad (by rw [h3]; simp), fun h3 => ⟨by omega, fun h4 => bad (fun h5 => h4 (by rw [h5]; rfl)), fun h4 => ⟨k + 1, hlt, hb, hf, ?_, by omega, wrap_small (by omega) (by omega)⟩⟩⟩
        have h6 : sortT s (b.getD k dT) = some ((symOf s a).2.1.getD k 0) := by
          cases h7 : sortT s (b.getD k dT) with
          | none => rw [h7] at h3; cases h3
          | some m => rw [h7] at h4; simp only [Option.getD_some] at h4; rw [h4]
        rw [he, decide_eq_true h6, Bool.true_and]
      · rw [drop_end (by omega)] at he
        simp only [sortL] at he
        rw [e, if_pos ⟨hf, hb, he⟩]; exact ⟨rfl, rfl⟩)
theorem k_lOf : SoundC Try.prog K_lOf.1 K_lOf.2 := SoundC.fam (fun x => manyL x.2.2) fun n => k_l4Of n
theorem k_sOf : SoundC Try.prog K_sOf.1 K_sOf.2 := SoundC.fam (fun x => manyL x.2.2) fun n => k_sortOf n
theorem k_termSize (n : Nat) : SoundC Try.prog (K_termSize n).1 (K_termSize n).2 := by
  induction n with
  | zero => exact sound_of hm (CtxOK.nil.and k_iNameOk) (fun _ => []) (by kernel_rfl) fun (x : TP) hl => (by
      have h1 : SmT (.mk x.1 x.2) := hl.1
      clear hl
      rw [← vc_termSize0 x]
      obtain ⟨a, b⟩ := x
      dsimp only at *
      simp [-List.getD_eq_getElem?_getD, -List.mem_cons, -Bool.forall_bool, -Bool.exists_bool, and_assoc, peta, tl_inj, ex_1, ex_2, ex_3, ex_4, ex_5, ex_6, ex_7, ex_8, ex_9, ey_2, ey_3, ey_4, ey_5, ey_6, ey_7, ey_8, ey_9]
      exact ⟨(tm_size h1).1, fun _ => rfl, fun _ => ⟨fun _ => rfl, fun _ => rfl⟩⟩)
  | succ n ih => exact sound_of hm ((CtxOK.nil.and (K := K_termSize n) ih).and k_iNameOk) (fun x => A_termSize n x.1 x.2) (by kernel_rfl) fun (x : TP) hl => (by
      have h1 : SmT (.mk x.1 x.2) := hl.1
      have hn : n + 1 ≤ 4 := hl.2
      clear hl
      rw [← vc_termSize n x]
      obtain ⟨a, b⟩ := x
      dsimp only at *
      simp [-List.getD_eq_getElem?_getD, -List.mem_cons, -Bool.forall_bool, -Bool.exists_bool, and_assoc, peta, tl_inj, ex_1, ex_2, ex_3, ex_4, ex_5, ex_6, ex_7, ex_8, ex_9, ey_2, ey_3, ey_4, ey_5, ey_6, ey_7, ey_8, ey_9]
      obtain ⟨t1, t2⟩ := tm_size h1
      have et : tsz (n + 1) (.mk a b) = if (!nameOk a || decide (b.length > 2)) = true then 13 else 1 + sumN (tsz n) b := rfl
      have bad : (!nameOk a || decide (b.length > 2)) = true → (13 : Int) = tsz (n + 1) (.mk a b) := fun h => by
        rw [et, if_pos h]; rfl
      have good : nameOk a = true → b.length ≤ 2 → tsz (n + 1) (.mk a b) = 1 + sumN (tsz n) b := fun h h2 => by
        rw [et, if_neg]; simp [h]; omega
      refine ⟨t1, fun h => bad (by rw [h]; rfl), fun h => ⟨fun h2 => bad (by rw [decide_eq_true (by omega)]; simp), fun h2 => ⟨fun h3 => by omega, fun _ => ⟨⟨0, by simp, by omega, by simp [sumN], rfl⟩, fun k hk h2' => ⟨fun hlt => ?_, fun hge => ?_⟩⟩⟩⟩⟩
      · have ht := sumN_take (tsz n) dT hlt
        have hle := sumN_take_le (tsz n) b (k + 1)
        have h4 : sumN (tsz n) b ≤ b.length * 223 := sumN_le fun x _ => by
          have := tsz_le n x
          have : 2 ^ n ≤ 2 ^ 4 := Nat.pow_le_pow_right (by omega) (by omega)
          omega
        exact ⟨hlt, by rw [wrap_small (by omega) (by omega)]; omega, (SmT.kids h1).mem (getD_mem dT hlt), by omega, k + 1, hlt, h2', by omega, by rw [wrap_small (by omega) (by omega), ht]; omega, wrap_small (by omega) (by omega)⟩
      · rw [List.take_of_length_le hge, good h (by omega)]; omega)
theorem k_isTerm : SoundC Try.prog K_isTerm.1 K_isTerm.2 := sound_of hm (CtxOK.nil.and (K := K_termSize 4) (k_termSize 4)) (fun _ => []) (by kernel_rfl) fun (a, b) hl => cast (vc_isTerm a b) (by
  replace hl : SmT (.mk a b) := hl
  simp [-List.getD_eq_getElem?_getD, -List.mem_cons, -Bool.forall_bool, -Bool.exists_bool, and_assoc, peta, tl_inj, ex_1, ex_2, ex_3, ex_4, ex_5, ex_6, ex_7, ex_8, ex_9, ey_2, ey_3, ey_4, ey_5, ey_6, ey_7, ey_8, ey_9]
  refine ⟨hl, ?_⟩
  rw [← isTerm_right]
  unfold isTerm
  congr 1; simp only [eq_iff_iff]; omega)
theorem ts_no {s : Sig} {t : Tm} (h : (sigOk s && right t) = false) : 0 = (termSort s t).1 ∧ (termSort s t).2 = false := by
  unfold termSort; rw [h]; exact ⟨rfl, rfl⟩
theorem ts_yes {s : Sig} {t : Tm} (h1 : sigOk s = true) (h2 : right t = true) : termSort s t = ((sortT s t).getD 0, (sortT s t).isSome) := by
  unfold termSort; rw [h1, h2]; rfl
theorem k_sTermSort : SoundC Try.prog K_sTermSort.1 K_sTermSort.2 := sound_of hm (((CtxOK.nil.and k_lOf).and k_l4Right).and k_sSigOk) (fun _ => []) (by kernel_rfl) fun (s, a, b) hl => cast (vc_sTermSort s a b) (by
  obtain ⟨hg, ht⟩ : SmG s ∧ SmT (.mk a b) := hl
  simp [-List.getD_eq_getElem?_getD, -List.mem_cons, -Bool.forall_bool, -Bool.exists_bool, and_assoc, peta, tl_inj, ex_1, ex_2, ex_3, ex_4, ex_5, ex_6, ex_7, ex_8, ex_9, ey_2, ey_3, ey_4, ey_5, ey_6, ey_7, ey_8, ey_9]
  refine ⟨hg, fun h => ts_no (by rw [h]; rfl), fun h => ⟨ht, fun h2 => ts_no (by rw [h, h2]; rfl), fun h2 => ⟨h, hg, ht, fun h3 => ?_, fun h3 => ?_⟩⟩⟩
  · rw [ts_yes h h2]
    cases h4 : sortT s (.mk a b) with
    | none => exact ⟨rfl, rfl⟩
    | some m => rw [h4] at h3; simp only [Option.getD_some] at h3; have := sortT_sort h h4; omega
  · rw [ts_yes h h2]
    cases h4 : sortT s (.mk a b) with
    | none => rw [h4] at h3; simp at h3
    | some m => exact ⟨rfl, rfl⟩)
theorem k_iTermSort : SoundC Try.prog K_iTermSort.1 K_iTermSort.2 := sound_of hm (((CtxOK.nil.and k_sOf).and k_isTerm).and k_iSigOk) (fun _ => []) (by kernel_rfl) fun (s, a, b) hl => cast (vc_iTermSort s a b) (by
  obtain ⟨hg, ht⟩ : SmG s ∧ SmT (.mk a b) := hl
  simp [-List.getD_eq_getElem?_getD, -List.mem_cons, -Bool.forall_bool, -Bool.exists_bool, and_assoc, peta, tl_inj, ex_1, ex_2, ex_3, ex_4, ex_5, ex_6, ex_7, ex_8, ex_9, ey_2, ey_3, ey_4, ey_5, ey_6, ey_7, ey_8, ey_9]
  exact ⟨hg, fun h => ts_no (by rw [h]; rfl), fun h => ⟨ht, fun h2 => ts_no (by rw [h, h2]; rfl), fun h2 => ⟨h, hg, ht, by rw [ts_yes h h2], by rw [ts_yes h h2]⟩⟩⟩)
end Cg

/-
  The codes' contracts: models: sizes, copies, equality. No condition.
-/
set_option linter.unusedVariables false
set_option linter.unusedSimpArgs false
set_option maxRecDepth 100000
set_option maxHeartbeats 1000000
namespace Cg
open Go Go.Proofs Pl
theorem SmM.mem {m : Mdl} (h : SmM m) {x : Rw} (hx : x ∈ m) : x.1.size ≤ 1048576 ∧ x.2.1.length ≤ 1048576 := by
  have h1 : m.length + sumN costR m ≤ 1048576 := h
  have h2 := sumN_mem costR hx
  have h3 : costR x = x.1.size + x.2.1.length := rfl
  omega
theorem SmM.len {m : Mdl} (h : SmM m) : m.length ≤ 1048576 := by
  have h1 : m.length + sumN costR m ≤ 1048576 := h
  omega

theorem k_l7Rats : SoundC Try.prog K_l7Rats.1 K_l7Rats.2 := sound_of hm CtxOK.nil (fun x => A_l7Rats x.1 x.2) (by kernel_rfl) fun (x : List Rt × List Rt) hl => (by
  rw [← vc_l7Rats x]
  have hlen : x.1.length ≤ 4294967296 := hl
  obtain ⟨l, m⟩ := x
  dsimp only at *
  simp [-List.getD_eq_getElem?_getD, -List.mem_cons, -Bool.forall_bool, -Bool.exists_bool, and_assoc, peta, tl_inj, ex_1, ex_2, ex_3, ex_4, ex_5, ex_6, ex_7, ex_8, ex_9, ey_2, ey_3, ey_4, ey_5, ey_6, ey_7, ey_8, ey_9]
  refine ⟨fun h e => h (by rw [e]), fun h => ⟨⟨0, by simp; omega⟩, fun k hk hlm he => ⟨fun hlt => ⟨hlt, by omega, fun h => (eq_step dQ hlt hlm he).1 (fun e => by rw [e] at h; simp at h), fun h1 h2 => ⟨k + 1, hlt, hlm, (eq_step dQ hlt hlm he).2 (Prod.ext h1 h2), by omega, wrap_small (by omega) (by omega)⟩⟩, fun hge => ?_⟩⟩⟩
  rw [drop_end (by omega), drop_end (l := m) (by omega)] at he
  exact he.2 rfl)

end Cg

/-
  The codes' contracts: valid models. No condition.
-/
set_option linter.unusedVariables false
set_option linter.unusedSimpArgs false
set_option maxRecDepth 100000
set_option maxHeartbeats 1000000
namespace Pl
open Go Cg
theorem bl_asymm : ∀ {x y : List UInt8}, Op.bytesLess x y = true → Op.bytesLess y x = false
  | [], [], _ => rfl
  | _ :: _, [], h => by cases h
  | [], _ :: _, _ => rfl
  | a :: x, b :: y, h => by
    simp only [Op.bytesLess, Bool.or_eq_true, decide_eq_true_eq, Bool.and_eq_true, beq_iff_eq] at h
    simp only [Op.bytesLess, Bool.or_eq_false_iff, decide_eq_false_iff_not, Bool.and_eq_false_iff]
    rcases h with h | ⟨h, h1⟩
    · exact ⟨fun h2 => by simp only [UInt8.lt_iff_toNat_lt] at h h2; omega, .inl (by simp only [beq_eq_false_iff_ne]; intro e; subst e; simp only [UInt8.lt_iff_toNat_lt] at h; omega)⟩
    · subst h
      exact ⟨fun h2 => by simp only [UInt8.lt_iff_toNat_lt] at h2; omega, .inr (bl_asymm h1)⟩
theorem bl_total : ∀ {x y : List UInt8}, Op.bytesLess x y = false → Op.bytesLess y x = false → x = y
  | [], [], _, _ => rfl
  | [], _ :: _, h, _ => by cases h
  | _ :: _, [], _, h => by cases h
  | a :: x, b :: y, h, h' => by
    simp only [Op.bytesLess, Bool.or_eq_false_iff, decide_eq_false_iff_not, Bool.and_eq_false_iff, beq_eq_false_iff_ne] at h h'
    have e : a = b := by
      have h1 := h.1
      have h2 := h'.1
      simp only [UInt8.lt_iff_toNat_lt] at h1 h2
      exact UInt8.toNat_inj.1 (by omega)
    subst e
    have h1 : Op.bytesLess x y = false := by rcases h.2 with h | h <;> simp_all
    have h2 : Op.bytesLess y x = false := by rcases h'.2 with h | h <;> simp_all
    rw [bl_total h1 h2]
theorem bl_irrefl (x : List UInt8) : Op.bytesLess x x = false := by
  cases h : Op.bytesLess x x with
  | false => rfl
  | true => rw [bl_asymm h] at h; cases h
theorem tl_inj' {a b : ByteArray} (h : a.toList = b.toList) : a = b := Cg.tl_inj.1 h
theorem cmpS_zero {a b : ByteArray} : cmpS a b = 0 ↔ a = b := by
  unfold cmpS sLess
  constructor
  · intro h
    cases h1 : Op.bytesLess a.toList b.toList <;> simp only [h1, if_true, if_false] at h
    · cases h2 : Op.bytesLess b.toList a.toList <;> simp only [h2] at h
      · exact tl_inj' (bl_total h1 h2)
      · simp at h
    · simp at h
  · rintro rfl; simp [bl_irrefl]
theorem cmpS_neg {a b : ByteArray} : cmpS a b < 0 ↔ sLess a b = true := by
  unfold cmpS
  cases h1 : sLess a b <;> simp
  split <;> omega
theorem cmpI_zero {a b : Int} : cmpI a b = 0 ↔ a = b := by unfold cmpI; split <;> (try split) <;> omega
theorem cmpI_neg {a b : Int} : cmpI a b < 0 ↔ a < b := by unfold cmpI; split <;> (try split) <;> omega
theorem ratOk_iff {x : Rt} : ratOk x = true ↔ -1000000000 ≤ x.1 ∧ x.1 ≤ 1000000000 ∧ 1 ≤ x.2 ∧ x.2 ≤ 1000000000 ∧ Nat.gcd x.1.natAbs x.2.natAbs = 1 := by
  simp only [ratOk, Bool.and_eq_true, decide_eq_true_eq, and_assoc]
theorem rat_eq {x y : Rt} (hx : ratOk x = true) (hy : ratOk y = true) (h : x.1 * y.2 = y.1 * x.2) : x = y := by
  obtain ⟨a, b⟩ := x
  obtain ⟨c, d⟩ := y
  obtain ⟨h1, h2, h3, h4, h5⟩ := ratOk_iff.1 hx
  obtain ⟨k1, k2, k3, k4, k5⟩ := ratOk_iff.1 hy
  dsimp only at *
  have hn : a.natAbs * d.natAbs = c.natAbs * b.natAbs := by rw [← Int.natAbs_mul, ← Int.natAbs_mul, h]
  have hbd : b.natAbs ∣ d.natAbs := Nat.Coprime.dvd_of_dvd_mul_left (m := a.natAbs) (Nat.coprime_comm.1 h5) (hn ▸ Nat.dvd_mul_left _ _)
  have hdb : d.natAbs ∣ b.natAbs := Nat.Coprime.dvd_of_dvd_mul_left (m := c.natAbs) (Nat.coprime_comm.1 k5) (hn ▸ Nat.dvd_mul_left _ _)
  have hbd' : b.natAbs = d.natAbs := Nat.dvd_antisymm hbd hdb
  have e : b = d := by omega
  subst e
  exact Prod.ext (Int.eq_of_mul_eq_mul_right (by omega) h) rfl
theorem cmpRat_zero {x y : Rt} (hx : ratOk x = true) (hy : ratOk y = true) : cmpRat x y = 0 ↔ x = y := by
  constructor
  · intro h
    unfold cmpRat ratLess at h
    rw [hx, hy] at h
    simp only [Bool.and_true, Bool.true_and, decide_eq_true_eq] at h
    apply rat_eq hx hy
    split at h
    · omega
    · split at h
      · omega
      · omega
  · rintro rfl
    have : ratLess x x = false := by unfold ratLess; simp
    unfold cmpRat; rw [this]; rfl
theorem cmpRat_neg {x y : Rt} : cmpRat x y < 0 ↔ ratLess x y = true := by
  unfold cmpRat
  cases ratLess x y <;> simp
  split <;> omega
theorem cmpArgs_neg : ∀ {a b : List Rt}, a.length = b.length → a.all ratOk = true → b.all ratOk = true → (cmpArgs a b < 0 ↔ argsLess a b = true)
  | [], [], _, _, _ => by simp [cmpArgs, argsLess]
  | [], _ :: _, h, _, _ => by simp at h
  | _ :: _, [], h, _, _ => by simp at h
  | x :: a, y :: b, h, ha, hb => by
    simp only [List.all_cons, Bool.and_eq_true] at ha hb
    simp only [cmpArgs, argsLess, cmpRat_zero ha.1 hb.1]
    split
    · exact cmpArgs_neg (by simpa using h) ha.2 hb.2
    · exact cmpRat_neg
theorem rowOk_iff {x : Rw} : rowOk x = true ↔ nameOk x.1 = true ∧ x.2.1.length ≤ 2 ∧ ratOk x.2.2 = true ∧ x.2.1.all ratOk = true := by
  simp only [rowOk, Bool.and_eq_true, decide_eq_true_eq, and_assoc]
theorem cmpRows_neg {x y : Rw} (hx : rowOk x = true) (hy : rowOk y = true) : cmpRows x y < 0 ↔ rowLess x y = true := by
  have ha := (rowOk_iff.1 hx).2.2.2
  have hb := (rowOk_iff.1 hy).2.2.2
  unfold cmpRows rowLess
  simp only [orI, cmpS_zero, cmpI_zero]
  by_cases h1 : x.1 = y.1
  · rw [if_pos h1, if_pos h1]
    by_cases h2 : x.2.1.length = y.2.1.length
    · rw [if_pos (by omega), if_pos h2]
      have := cmpArgs_neg h2 ha hb
      split
      · rename_i h3; rw [← this, h3]
      · exact this
    · rw [if_neg (by omega), if_neg h2, cmpI_neg]
      simp only [decide_eq_true_eq]; omega
  · rw [if_neg h1, if_neg h1]; exact cmpS_neg
end Pl
namespace Cg
open Go Go.Proofs Pl

theorem k_l1Abs : SoundC Try.prog K_l1Abs.1 K_l1Abs.2 := sound_of hm CtxOK.nil (fun _ => []) (by kernel_rfl) fun (x : Int) hl => (by
  rw [← vc_l1Abs x]
  simp [-List.getD_eq_getElem?_getD, -List.mem_cons, -Bool.forall_bool, -Bool.exists_bool, and_assoc, peta, tl_inj, ex_1, ex_2, ex_3, ex_4, ex_5, ex_6, ex_7, ex_8, ex_9, ey_2, ey_3, ey_4, ey_5, ey_6, ey_7, ey_8, ey_9]
  unfold abs1
  refine ⟨fun h => by rw [if_pos (.inl h)], fun h => ⟨fun h2 => by rw [if_pos (.inr h2)], fun h2 => ⟨fun h3 => ?_, fun h3 => ?_⟩⟩⟩
  · rw [if_neg (by omega), if_pos h3, wrap_small (by omega) (by omega)]
  · rw [if_neg (by omega), if_neg (by omega)])

theorem gcd_step {u v n : Nat} (g1 : u ≤ 4611686018427387904) (g2 : v ≤ 4611686018427387904) (g3 : u.gcd v = n) : (0 < v →
      ¬v = 0 ∧
        ∃ a_2 : Nat, a_2 ≤ 4611686018427387904 ∧ ∃ x : Nat, x ≤ 4611686018427387904 ∧ a_2.gcd x = n ∧ x < v ∧ (v : Int) = (a_2 : Int) ∧ (u : Int).tmod (v : Int) = (x : Int)) ∧
    (v = 0 → (u : Int) = (n : Int)) := by
  refine ⟨fun h => ⟨by omega, v, g2, u % v, ?_, ?_, Nat.mod_lt _ h, rfl, (Int.ofNat_tmod u v).symm⟩, fun h => ?_⟩
  · have := Nat.mod_lt u h; omega
  · rw [← g3, Nat.gcd_comm v, Nat.gcd_comm u, ← Nat.gcd_rec]
  · subst h; rw [Nat.gcd_zero_right] at g3; rw [g3]

theorem k_l1Gcd : SoundC Try.prog K_l1Gcd.1 K_l1Gcd.2 := sound_of hm CtxOK.nil (fun x => A_l1Gcd x.1 x.2) (by kernel_rfl) fun (x : Nat × Nat) hl => (by
  obtain ⟨h1, h2⟩ : x.1 ≤ 4611686018427387904 ∧ x.2 ≤ 4611686018427387904 := hl
  obtain ⟨a, b⟩ := x
  rw [← vc_l1Gcd a b]
  dsimp only at *
  refine ⟨⟨(a, b), ⟨h1, h2, rfl⟩, ⟨rfl, rfl, trivial⟩, trivial⟩, fun (u, v) ⟨g1, g2, g3⟩ => ?_⟩
  dsimp only at *
  simp [-List.getD_eq_getElem?_getD, -List.mem_cons, -Bool.forall_bool, -Bool.exists_bool, and_assoc, peta, tl_inj, ex_1, ex_2, ex_3, ex_4, ex_5, ex_6, ex_7, ex_8, ex_9, ey_2, ey_3, ey_4, ey_5, ey_6, ey_7, ey_8, ey_9]
  exact gcd_step g1 g2 g3)

theorem k_gcd : SoundC Try.prog K_gcd.1 K_gcd.2 := sound_of hm CtxOK.nil (fun x => A_gcd x.1 x.2) (by kernel_rfl) fun (x : Int × Int) hl => (by
  obtain ⟨h1, h2⟩ : x.1.natAbs ≤ 4611686018427387904 ∧ x.2.natAbs ≤ 4611686018427387904 := hl
  obtain ⟨a, b⟩ := x
  rw [← vc_gcd a b]
  dsimp only at *
  rw [wrap_small (x := 0 - a) (by omega) (by omega), wrap_small (x := 0 - b) (by omega) (by omega)]
  refine ⟨⟨(a.natAbs, b.natAbs), ⟨h1, h2, rfl⟩, ⟨by split <;> omega, by split <;> omega, trivial⟩, trivial⟩, fun (u, v) ⟨g1, g2, g3⟩ => ?_⟩
  dsimp only at *
  simp [-List.getD_eq_getElem?_getD, -List.mem_cons, -Bool.forall_bool, -Bool.exists_bool, and_assoc, peta, tl_inj, ex_1, ex_2, ex_3, ex_4, ex_5, ex_6, ex_7, ex_8, ex_9, ey_2, ey_3, ey_4, ey_5, ey_6, ey_7, ey_8, ey_9]
  exact gcd_step g1 g2 g3)

theorem k_sRatOk : SoundC Try.prog K_sRatOk.1 K_sRatOk.2 := sound_of hm ((CtxOK.nil.and k_l1Gcd).and k_l1Abs) (fun _ => []) (by kernel_rfl) fun (x : Rt) hl => (by
  rw [← vc_sRatOk x]
  obtain ⟨a, b⟩ := x
  dsimp only at *
  simp [-List.getD_eq_getElem?_getD, -List.mem_cons, -Bool.forall_bool, -Bool.exists_bool, and_assoc, peta, tl_inj, ex_1, ex_2, ex_3, ex_4, ex_5, ex_6, ex_7, ex_8, ex_9, ey_2, ey_3, ey_4, ey_5, ey_6, ey_7, ey_8, ey_9]
  have no : (ratOk (a, b) = true → False) → ratOk (a, b) = false := fun h => by cases h1 : ratOk (a, b) with
    | false => rfl
    | true => exact (h h1).elim
  have e : abs1 a ≤ 1000000000 ↔ -1000000000 ≤ a ∧ a ≤ 1000000000 := by unfold abs1; split <;> (try split) <;> omega
  refine ⟨fun h1 => ⟨fun h2 => ⟨fun h3 => ?_, fun h3 => no fun h => ?_⟩, fun h2 => no fun h => ?_⟩, fun h1 => no fun h => ?_⟩
  · obtain ⟨u1, u2⟩ := e.1 h1
    refine ⟨a.natAbs, ?_, b.natAbs, by omega, by omega, by omega, ?_⟩
    · unfold abs1; rw [if_neg (by omega)]; split <;> omega
    · unfold ratOk
      simp only
      rw [decide_eq_true u1, decide_eq_true u2, decide_eq_true h2, decide_eq_true h3, Bool.beq_eq_decide_eq]
      simp only [Bool.true_and]
      congr 1
      simp only [eq_iff_iff]; omega
  all_goals
    have := ratOk_iff.1 h
    dsimp only at this
    omega)

theorem k_iRatOk : SoundC Try.prog K_iRatOk.1 K_iRatOk.2 := sound_of hm ((CtxOK.nil.and k_gcd).and k_within) (fun _ => []) (by kernel_rfl) fun (x : Rt) hl => (by
  rw [← vc_iRatOk x]
  obtain ⟨a, b⟩ := x
  dsimp only at *
  simp [-List.getD_eq_getElem?_getD, -List.mem_cons, -Bool.forall_bool, -Bool.exists_bool, and_assoc, peta, tl_inj, ex_1, ex_2, ex_3, ex_4, ex_5, ex_6, ex_7, ex_8, ex_9, ey_2, ey_3, ey_4, ey_5, ey_6, ey_7, ey_8, ey_9]
  simp only [withinI, Bool.and_eq_true, decide_eq_true_eq, Bool.and_eq_false_iff, decide_eq_false_iff_not]
  have no : (ratOk (a, b) = true → False) → ratOk (a, b) = false := fun h => by cases h1 : ratOk (a, b) with
    | false => rfl
    | true => exact (h h1).elim
  refine ⟨fun h1 => ⟨fun h2 => ⟨by omega, by omega, ?_⟩, fun h2 => no fun h => ?_⟩, fun h1 => no fun h => ?_⟩
  · unfold ratOk
    simp only
    rw [decide_eq_true h1.1, decide_eq_true h1.2, decide_eq_true h2.1, decide_eq_true h2.2, Bool.beq_eq_decide_eq]
    simp only [Bool.true_and]
    congr 1
    simp only [eq_iff_iff]; omega
  all_goals
    have := ratOk_iff.1 h
    dsimp only at this
    omega)

theorem less_vc (x : Rt × Rt) : (Exists fun (x_1 : Pl.Rt) =>
 ((x.fst.fst = x_1.fst ∧ x.fst.snd = x_1.snd ∧ True) ∧ True) ∧
 True ∧
 condP (Pl.ratOk x_1)
 (Exists fun (x_2 : Pl.Rt) =>
 ((x.snd.fst = x_2.fst ∧ x.snd.snd = x_2.snd ∧ True) ∧ True) ∧
 True ∧
 condP (Pl.ratOk x_2) (Decidable.decide (IntKind.i64.wrap (x.fst.fst * x.snd.snd) < IntKind.i64.wrap (x.snd.fst * x.fst.snd)) = Pl.ratLess x.fst x.snd)
 (Bool.false = Pl.ratLess x.fst x.snd))
 (Bool.false = Pl.ratLess x.fst x.snd)) := by
  obtain ⟨⟨a, b⟩, c, d⟩ := x
  dsimp only at *
  simp [-List.getD_eq_getElem?_getD, -List.mem_cons, -Bool.forall_bool, -Bool.exists_bool, and_assoc, peta, tl_inj, ex_1, ex_2, ex_3, ex_4, ex_5, ex_6, ex_7, ex_8, ex_9, ey_2, ey_3, ey_4, ey_5, ey_6, ey_7, ey_8, ey_9]
  refine ⟨fun h => ⟨fun h2 => ?_, fun h2 => by unfold ratLess; rw [h2]; simp⟩, fun h => by unfold ratLess; rw [h]; simp⟩
  obtain ⟨h1, h2', h3, h4, h5⟩ := ratOk_iff.1 h
  obtain ⟨k1, k2, k3, k4, k5⟩ := ratOk_iff.1 h2
  unfold ratLess
  rw [h, h2]
  dsimp only at *
  have w : ∀ {p q : Int}, -1000000000 ≤ p → p ≤ 1000000000 → 1 ≤ q → q ≤ 1000000000 → IntKind.i64.wrap (p * q) = p * q := fun {p q} e1 e2 e3 e4 => by
    have u1 : p * q ≤ 1000000000 * q := Int.mul_le_mul_of_nonneg_right e2 (by omega)
    have u2 : -1000000000 * q ≤ p * q := Int.mul_le_mul_of_nonneg_right e1 (by omega)
    exact wrap_small (by omega) (by omega)
  rw [w h1 h2' k3 k4, w k1 k2 h3 h4]
  simp
theorem k_sRatLess : SoundC Try.prog K_sRatLess.1 K_sRatLess.2 := sound_of hm (CtxOK.nil.and k_sRatOk) (fun _ => []) (by kernel_rfl) fun (x : Rt × Rt) hl => (by
  rw [← vc_sRatLess x]; exact less_vc x)
theorem k_iRatLess : SoundC Try.prog K_iRatLess.1 K_iRatLess.2 := sound_of hm (CtxOK.nil.and k_iRatOk) (fun _ => []) (by kernel_rfl) fun (x : Rt × Rt) hl => (by
  rw [← vc_iRatLess x]; exact less_vc x)
theorem k_compareRats : SoundC Try.prog K_compareRats.1 K_compareRats.2 := sound_of hm (CtxOK.nil.and k_iRatLess) (fun _ => []) (by kernel_rfl) fun (x : Rt × Rt) hl => (by
  rw [← vc_compareRats x]
  obtain ⟨⟨a, b⟩, c, d⟩ := x
  dsimp only at *
  simp [-List.getD_eq_getElem?_getD, -List.mem_cons, -Bool.forall_bool, -Bool.exists_bool, and_assoc, peta, tl_inj, ex_1, ex_2, ex_3, ex_4, ex_5, ex_6, ex_7, ex_8, ex_9, ey_2, ey_3, ey_4, ey_5, ey_6, ey_7, ey_8, ey_9]
  unfold cmpRat
  refine ⟨fun h => by rw [if_pos h], fun h => ⟨fun h2 => by rw [if_neg (by rw [h]; simp), if_pos h2], fun h2 => by rw [h, h2]; rfl⟩⟩)

theorem all_stepR {α : Type} (d : α) (p : α → Bool) {l : List α} {k : Nat} (hk : k < l.length) (he : l.all p = (l.drop k).all p) : (p (l.getD k d) = false → l.all p = false) ∧ (p (l.getD k d) = true → l.all p = (l.drop (k + 1)).all p) := by
  rw [drop_get d hk, List.all_cons] at he
  exact ⟨fun h => by rw [he, h]; rfl, fun h => by rw [he, h]; rfl⟩

theorem k_l7Row : SoundC Try.prog K_l7Row.1 K_l7Row.2 := sound_of hm ((CtxOK.nil.and k_sNameOk).and k_sRatOk) (fun x => A_l7Row x) (by kernel_rfl) fun (x : Rw) hl => (by
  rw [← vc_l7Row x]
  obtain ⟨h1, h2⟩ : x.1.size ≤ 1048576 ∧ x.2.1.length ≤ 1048576 := hl
  obtain ⟨nm, args, v⟩ := x
  dsimp only at *
  simp [-List.getD_eq_getElem?_getD, -List.mem_cons, -Bool.forall_bool, -Bool.exists_bool, and_assoc, peta, tl_inj, ex_1, ex_2, ex_3, ex_4, ex_5, ex_6, ex_7, ex_8, ex_9, ey_2, ey_3, ey_4, ey_5, ey_6, ey_7, ey_8, ey_9]
  refine ⟨⟨0, by simp, by simp, rfl⟩, fun k hk he => ⟨fun hlt => ?_, fun hge => ?_⟩⟩
  · obtain ⟨e1, e2⟩ := all_stepR dQ ratOk hlt he
    exact ⟨hlt, fun h => by simp [rowOk, e1 h], fun h => ⟨k + 1, hlt, e2 h, by omega, wrap_small (by omega) (by omega)⟩⟩
  · rw [drop_end (by omega)] at he
    simp only [rowOk]
    rw [he]
    refine ⟨h1, fun h => ⟨fun h3 => ?_, fun h3 => ?_⟩, fun h => by rw [h]; rfl⟩
    · rw [h, decide_eq_true (by omega : args.length ≤ 2)]; simp
    · rw [decide_eq_false (by omega : ¬ args.length ≤ 2)]; simp)

theorem less_step {a b : List Rt} {k : Nat} (h1 : k < a.length) (h2 : k < b.length) : argsLess (a.drop k) (b.drop k) = if a.getD k dQ = b.getD k dQ then argsLess (a.drop (k + 1)) (b.drop (k + 1)) else ratLess (a.getD k dQ) (b.getD k dQ) := by
  rw [drop_get dQ h1, drop_get dQ h2]; rfl

theorem k_l7Less : SoundC Try.prog K_l7Less.1 K_l7Less.2 := sound_of hm (CtxOK.nil.and k_sRatLess) (fun x => A_l7Less x.1 x.2) (by kernel_rfl) fun (x : Rw × Rw) hl => (by
  rw [← vc_l7Less x]
  have h1 : x.1.2.1.length ≤ 1048576 := hl
  obtain ⟨⟨nm, args, u1, u2⟩, nm', args', u1', u2'⟩ := x
  dsimp only at *
  simp [-List.getD_eq_getElem?_getD, -List.mem_cons, -Bool.forall_bool, -Bool.exists_bool, and_assoc, peta, tl_inj, ex_1, ex_2, ex_3, ex_4, ex_5, ex_6, ex_7, ex_8, ex_9, ey_2, ey_3, ey_4, ey_5, ey_6, ey_7, ey_8, ey_9]
  unfold rowLess
  dsimp only
  refine ⟨fun h => by rw [if_neg h]; rfl, fun h => ⟨fun h3 => by rw [if_pos h, if_neg (by omega)], fun h3 => ?_⟩⟩
  rw [if_pos h, if_pos (by omega)]
  refine ⟨⟨0, by simp, by omega, by simp, rfl⟩, fun k hk he hs => ⟨fun hlt => ?_, fun hge => ?_⟩⟩
  · rw [less_step hlt (by omega)] at hs
    refine ⟨hlt, by omega, fun h4 => ⟨hlt, by omega, ?_⟩, fun h4 h5 => ⟨k + 1, hlt, he, ?_, by omega, wrap_small (by omega) (by omega)⟩⟩
    · rw [hs, if_neg]
      intro e; rw [e] at h4; simp at h4
    · rw [hs, if_pos (Prod.ext h4 h5)]
  · rw [hs, drop_end (by omega)]; rfl)

theorem k_RowOk1 : SoundC Try.prog K_RowOk1.1 K_RowOk1.2 := sound_of hm (CtxOK.nil.and k_iRatOk) (fun _ => []) (by kernel_rfl) fun (x : Rt) hl => (by
  rw [← vc_RowOk1 x]
  simp [-List.getD_eq_getElem?_getD, -List.mem_cons, -Bool.forall_bool, -Bool.exists_bool, and_assoc, peta, tl_inj, ex_1, ex_2, ex_3, ex_4, ex_5, ex_6, ex_7, ex_8, ex_9, ey_2, ey_3, ey_4, ey_5, ey_6, ey_7, ey_8, ey_9])

theorem k_IndexRat : SoundC Try.prog K_IndexRat.1 K_IndexRat.2 := sound_of hm (CtxOK.nil.and k_RowOk1) (fun x => A_IndexRat x) (by kernel_rfl) fun (l : List Rt) hl => (by
  rw [← vc_IndexRat l]
  replace hl : Sz l := hl
  simp [-List.getD_eq_getElem?_getD, -List.mem_cons, -Bool.forall_bool, -Bool.exists_bool, and_assoc, peta, tl_inj, ex_1, ex_2, ex_3, ex_4, ex_5, ex_6, ex_7, ex_8, ex_9, ey_2, ey_3, ey_4, ey_5, ey_6, ey_7, ey_8, ey_9]
  exact ⟨⟨0, by simp, idx_init _ _, rfl⟩, fun k hk he => ⟨fun hlt => ⟨hlt, fun h => (idx_step dQ _ hlt he).1 (by simp [h, -List.getD_eq_getElem?_getD]), fun h => ⟨k + 1, hlt, (idx_step dQ _ hlt he).2 (by simp [h, -List.getD_eq_getElem?_getD]), by omega, wrap_succ hlt hl⟩⟩, fun hge => idx_end _ hge he⟩⟩)
theorem k_ContainsRat : SoundC Try.prog K_ContainsRat.1 K_ContainsRat.2 := sound_of hm (CtxOK.nil.and k_IndexRat) (fun _ => []) (by kernel_rfl) fun (l : List Rt) hl => (by
  rw [← vc_ContainsRat l]
  replace hl : Sz l := hl
  simp only [idx_any]
  simp [-List.getD_eq_getElem?_getD, -List.mem_cons, -Bool.forall_bool, -Bool.exists_bool, and_assoc, peta, tl_inj, ex_1, ex_2, ex_3, ex_4, ex_5, ex_6, ex_7, ex_8, ex_9, ey_2, ey_3, ey_4, ey_5, ey_6, ey_7, ey_8, ey_9]
  exact hl)
theorem k_rowOk : SoundC Try.prog K_rowOk.1 K_rowOk.2 := sound_of hm (((CtxOK.nil.and k_ContainsRat).and k_iRatOk).and k_iNameOk) (fun _ => []) (by kernel_rfl) fun (x : Rw) hl => (by
  rw [← vc_rowOk x]
  obtain ⟨h1, h2⟩ : x.1.size ≤ 1048576 ∧ x.2.1.length ≤ 1048576 := hl
  obtain ⟨nm, args, v⟩ := x
  dsimp only at *
  simp [-List.getD_eq_getElem?_getD, -List.mem_cons, -Bool.forall_bool, -Bool.exists_bool, and_assoc, peta, tl_inj, ex_1, ex_2, ex_3, ex_4, ex_5, ex_6, ex_7, ex_8, ex_9, ey_2, ey_3, ey_4, ey_5, ey_6, ey_7, ey_8, ey_9]
  simp only [rowOk]
  refine ⟨h1, fun h => ⟨fun h3 => ⟨fun h4 => ⟨by omega, ?_⟩, fun h4 => by rw [h4]; simp⟩, fun h3 => ?_⟩, fun h => by rw [h]; rfl⟩
  · rw [h, h4, decide_eq_true (by omega : args.length ≤ 2), all_any]; simp
  · rw [decide_eq_false (by omega : ¬ args.length ≤ 2)]; simp)

theorem k_isNaNS : SoundC Try.prog K_isNaNS.1 K_isNaNS.2 := sound_of hm CtxOK.nil (fun _ => []) (by kernel_rfl) fun (x : ByteArray) hl => (by
  rw [← vc_isNaNS x]; simp)
theorem k_isNaNI : SoundC Try.prog K_isNaNI.1 K_isNaNI.2 := sound_of hm CtxOK.nil (fun _ => []) (by kernel_rfl) fun (x : Int) hl => (by
  rw [← vc_isNaNI x]; simp)
theorem k_CompareS : SoundC Try.prog K_CompareS.1 K_CompareS.2 := sound_of hm (CtxOK.nil.and k_isNaNS) (fun _ => []) (by kernel_rfl) fun (x : ByteArray × ByteArray) hl => (by
  rw [← vc_CompareS x]
  obtain ⟨a, b⟩ := x
  refine ⟨a, ⟨rfl, trivial⟩, trivial, b, ⟨rfl, trivial⟩, trivial, ?_⟩
  dsimp only
  unfold cmpS sLess
  cases h1 : Op.bytesLess a.toList b.toList with
  | true => simp [condP]
  | false =>
    cases h2 : Op.bytesLess b.toList a.toList with
    | true =>
      have : (a.toList == b.toList) = false := by
        simp only [beq_eq_false_iff_ne]; intro e; rw [e, bl_irrefl] at h2; cases h2
      simp [condP, this]
    | false =>
      have := bl_total h1 h2
      simp [condP, this])
theorem k_CompareI : SoundC Try.prog K_CompareI.1 K_CompareI.2 := sound_of hm (CtxOK.nil.and k_isNaNI) (fun _ => []) (by kernel_rfl) fun (x : Int × Int) hl => (by
  rw [← vc_CompareI x]
  obtain ⟨a, b⟩ := x
  dsimp only at *
  simp [-List.getD_eq_getElem?_getD, -List.mem_cons, -Bool.forall_bool, -Bool.exists_bool, and_assoc, peta, tl_inj, ex_1, ex_2, ex_3, ex_4, ex_5, ex_6, ex_7, ex_8, ex_9, ey_2, ey_3, ey_4, ey_5, ey_6, ey_7, ey_8, ey_9]
  unfold cmpI
  refine ⟨fun h => by rw [if_pos h], fun h => ⟨fun h2 => by rw [if_neg (by omega), if_pos h2], fun h2 => by rw [if_neg (by omega), if_neg (by omega)]⟩⟩)
theorem k_Or : SoundC Try.prog K_Or.1 K_Or.2 := sound_of hm CtxOK.nil (fun x => A_Or x) (by kernel_rfl) fun (x : List Int) hl => (by
  rw [← vc_Or x]
  replace hl : Sz x := hl
  simp [-List.getD_eq_getElem?_getD, -List.mem_cons, -Bool.forall_bool, -Bool.exists_bool, and_assoc, peta, tl_inj, ex_1, ex_2, ex_3, ex_4, ex_5, ex_6, ex_7, ex_8, ex_9, ey_2, ey_3, ey_4, ey_5, ey_6, ey_7, ey_8, ey_9]
  refine ⟨⟨0, by simp, by simp, rfl⟩, fun k hk he => ⟨fun hlt => ?_, fun hge => ?_⟩⟩
  · rw [drop_get 0 hlt] at he
    simp only [orI] at he
    exact ⟨hlt, fun h => by rw [he, if_neg h], fun h => ⟨k + 1, hlt, by rw [he, if_pos h], by omega, wrap_succ hlt hl⟩⟩
  · rw [he, drop_end (by omega)]; rfl)
theorem k_CompareFunc : SoundC Try.prog K_CompareFunc.1 K_CompareFunc.2 := sound_of hm (CtxOK.nil.and k_compareRats) (fun x => A_CompareFunc x.1 x.2) (by kernel_rfl) fun (x : List Rt × List Rt) hl => (by
  rw [← vc_CompareFunc x]
  obtain ⟨h1, h2⟩ : Sz x.1 ∧ Sz x.2 := hl
  obtain ⟨a, b⟩ := x
  dsimp only at *
  simp [-List.getD_eq_getElem?_getD, -List.mem_cons, -Bool.forall_bool, -Bool.exists_bool, and_assoc, peta, tl_inj, ex_1, ex_2, ex_3, ex_4, ex_5, ex_6, ex_7, ex_8, ex_9, ey_2, ey_3, ey_4, ey_5, ey_6, ey_7, ey_8, ey_9]
  refine ⟨⟨0, by simp, by simp, by simp, rfl⟩, fun k hk hk2 he => ⟨fun hlt => ⟨hlt, fun h => ?_, fun h => ?_⟩, fun hge => ⟨fun h => ?_, fun h => ?_⟩⟩⟩
  · rw [he, drop_get dQ hlt, drop_end (l := b) (by omega)]; rfl
  · rw [drop_get dQ hlt, drop_get dQ h] at he
    simp only [cmpArgs] at he
    exact ⟨h, fun h3 => by rw [he, if_neg h3], fun h3 => ⟨k + 1, hlt, h, by rw [he, if_pos h3], by omega, wrap_succ hlt h1⟩⟩
  · rw [he, drop_end (by omega), drop_get dQ (by omega : k < b.length)]; rfl
  · rw [he, drop_end (by omega), drop_end (l := b) (by omega)]; rfl)
theorem k_compareRows : SoundC Try.prog K_compareRows.1 K_compareRows.2 := sound_of hm ((((CtxOK.nil.and k_Or).and k_CompareFunc).and k_CompareI).and k_CompareS) (fun _ => []) (by kernel_rfl) fun (x : Rw × Rw) hl => (by
  rw [← vc_compareRows x]
  obtain ⟨h1, h2⟩ : Sz x.1.2.1 ∧ Sz x.2.2.1 := hl
  obtain ⟨⟨nm, args, u1, u2⟩, nm', args', u1', u2'⟩ := x
  dsimp only at *
  simp [-List.getD_eq_getElem?_getD, -List.mem_cons, -Bool.forall_bool, -Bool.exists_bool, and_assoc, peta, tl_inj, ex_1, ex_2, ex_3, ex_4, ex_5, ex_6, ex_7, ex_8, ex_9, ey_2, ey_3, ey_4, ey_5, ey_6, ey_7, ey_8, ey_9]
  exact ⟨h1, h2, rfl⟩)
theorem k_suits : SoundC Try.prog K_suits.1 K_suits.2 := sound_of hm CtxOK.nil (fun _ => []) (by kernel_rfl) fun (x : Rt × Int) hl => (by
  rw [← vc_suits x]
  obtain ⟨⟨a, b⟩, n⟩ := x
  dsimp only at *
  simp [-List.getD_eq_getElem?_getD, -List.mem_cons, -Bool.forall_bool, -Bool.exists_bool, and_assoc, peta, tl_inj, ex_1, ex_2, ex_3, ex_4, ex_5, ex_6, ex_7, ex_8, ex_9, ey_2, ey_3, ey_4, ey_5, ey_6, ey_7, ey_8, ey_9]
  exact ⟨fun h => by simp [suit, h], fun h => by simp [suit, h, Bool.beq_eq_decide_eq]⟩)
theorem k_l7Fit : SoundC Try.prog K_l7Fit.1 K_l7Fit.2 := sound_of hm (CtxOK.nil.and k_sRatOk) (fun _ => []) (by kernel_rfl) fun (x : Rt × Int) hl => (by
  rw [← vc_l7Fit x]
  obtain ⟨⟨a, b⟩, n⟩ := x
  dsimp only at *
  simp [-List.getD_eq_getElem?_getD, -List.mem_cons, -Bool.forall_bool, -Bool.exists_bool, and_assoc, peta, tl_inj, ex_1, ex_2, ex_3, ex_4, ex_5, ex_6, ex_7, ex_8, ex_9, ey_2, ey_3, ey_4, ey_5, ey_6, ey_7, ey_8, ey_9]
  exact ⟨fun h => ⟨fun h2 => by simp [fit, suit, h, h2], fun h2 => by simp [fit, suit, h, h2, Bool.beq_eq_decide_eq]⟩, fun h => by simp [fit, h]⟩)

theorem m_step {m : Mdl} {k : Nat} (hk : k < m.length) (he : mL none m = mL (prevR m k) (m.drop k)) :
    (rowOk (m.getD k dR) = false → mRight m = false) ∧ (beforeR (prevR m k) (m.getD k dR) = false → mRight m = false) ∧ (rowOk (m.getD k dR) = true → beforeR (prevR m k) (m.getD k dR) = true → mL none m = mL (prevR m (k + 1)) (m.drop (k + 1))) := by
  rw [drop_get dR hk] at he
  simp only [mL] at he
  refine ⟨fun h => ?_, fun h => ?_, fun h1 h2 => ?_⟩
  · unfold mRight; rw [he, h]; simp
  · unfold mRight; rw [he, h]; simp
  · rw [he, h1, h2]
    simp [prevR, -List.getD_eq_getElem?_getD]

theorem k_l7Right : SoundC Try.prog K_l7Right.1 K_l7Right.2 := sound_of hm ((CtxOK.nil.and k_l7Less).and k_l7Row) (fun x => A_l7Right x) (by kernel_rfl) fun (m : Mdl) hl => (by
  rw [← vc_l7Right m]
  replace hl : SmM m := hl
  simp [-List.getD_eq_getElem?_getD, -List.mem_cons, -Bool.forall_bool, -Bool.exists_bool, and_assoc, peta, tl_inj, ex_1, ex_2, ex_3, ex_4, ex_5, ex_6, ex_7, ex_8, ex_9, ey_2, ey_3, ey_4, ey_5, ey_6, ey_7, ey_8, ey_9]
  have hlen := hl.len
  refine ⟨⟨0, by simp, by simp [prevR], rfl⟩, fun k hk he => ⟨fun hlt => ?_, fun hge => ?_⟩⟩
  · obtain ⟨m1, m2⟩ := hl.mem (getD_mem dR hlt)
    obtain ⟨e1, e2, e3⟩ := m_step hlt he
    refine ⟨hlt, m1, m2, e1, fun h1 => ⟨fun h4 => ?_, fun h4 => ⟨k + 1, hlt, e3 h1 (by rw [h4]; rfl), by omega, wrap_small (by omega) (by omega)⟩⟩⟩
    rw [wrap_small (by omega) (by omega)]
    have e : ((k : Int) - 1).toNat = k - 1 := by omega
    rw [e]
    have hb : beforeR (prevR m k) (m.getD k dR) = rowLess (m.getD (k - 1) dR) (m.getD k dR) := by
      unfold prevR; rw [if_neg (by omega)]; rfl
    exact ⟨by omega, by omega, by omega, hlt, (hl.mem (getD_mem dR (by omega))).2, fun h => e2 (by rw [hb, h]), fun h => ⟨k + 1, hlt, e3 h1 (by rw [hb, h]), by omega, wrap_small (by omega) (by omega)⟩⟩
  · rw [drop_end (by omega)] at he
    unfold mRight
    rw [he]
    simp only [mL, Bool.true_and]
    congr 1
    simp only [eq_iff_iff]; omega)

theorem k_iModel : SoundC Try.prog K_iModel.1 K_iModel.2 := sound_of hm ((CtxOK.nil.and k_compareRows).and k_rowOk) (fun x => A_iModel x) (by kernel_rfl) fun (m : Mdl) hl => (by
  rw [← vc_iModel m]
  replace hl : SmM m := hl
  simp [-List.getD_eq_getElem?_getD, -List.mem_cons, -Bool.forall_bool, -Bool.exists_bool, and_assoc, peta, tl_inj, ex_1, ex_2, ex_3, ex_4, ex_5, ex_6, ex_7, ex_8, ex_9, ey_2, ey_3, ey_4, ey_5, ey_6, ey_7, ey_8, ey_9]
  have hlen := hl.len
  refine ⟨fun h => by unfold mRight; rw [decide_eq_false (by omega : ¬ m.length ≤ 40)]; simp, fun h40 => ⟨⟨0, by simp, by simp [prevR], fun h => (h rfl).elim, rfl⟩, fun k hk he hp => ⟨fun hlt => ?_, fun hge => ?_⟩⟩⟩
  · obtain ⟨m1, m2⟩ := hl.mem (getD_mem dR hlt)
    obtain ⟨e1, e2, e3⟩ := m_step hlt he
    refine ⟨hlt, m1, m2, e1, fun h1 => ⟨fun h4 => ?_, fun h4 => ⟨k + 1, hlt, e3 h1 (by rw [h4]; rfl), fun _ => h1, by omega, wrap_small (by omega) (by omega)⟩⟩⟩
    rw [wrap_small (by omega) (by omega)]
    have e : ((k : Int) - 1).toNat = k - 1 := by omega
    rw [e]
    have hb : beforeR (prevR m k) (m.getD k dR) = rowLess (m.getD (k - 1) dR) (m.getD k dR) := by
      unfold prevR; rw [if_neg (by omega)]; rfl
    have hc := cmpRows_neg (hp (by omega)) h1
    have hz := (hl.mem (getD_mem dR (by omega : k - 1 < m.length))).2
    refine ⟨by omega, by omega, by omega, by omega, by omega, fun h => e2 ?_, fun h => ⟨k + 1, hlt, e3 h1 ?_, fun _ => h1, by omega, wrap_small (by omega) (by omega)⟩⟩
    · rw [hb]
      cases h2 : rowLess (m.getD (k - 1) dR) (m.getD k dR) with
      | false => rfl
      | true => have := hc.2 h2; omega
    · rw [hb]; exact hc.1 h
  · rw [drop_end (by omega)] at he
    unfold mRight
    rw [he, decide_eq_true (by omega : m.length ≤ 40)]
    rfl)

theorem fit_step {a : List Rt} {b : List Int} {k : Nat} (h1 : k < a.length) (h2 : k < b.length) : fitL (a.drop k) (b.drop k) = (fit (a.getD k dQ) (b.getD k 0) && fitL (a.drop (k + 1)) (b.drop (k + 1))) := by
  rw [drop_get dQ h1, drop_get 0 h2]; rfl
theorem fit_end {a : List Rt} {b : List Int} {k : Nat} (h1 : a.length ≤ k) : fitL (a.drop k) (b.drop k) = true := by
  rw [drop_end (by omega)]; cases b.drop k <;> rfl
theorem mL_mem : ∀ {m : Mdl} {p : Option Rw}, mL p m = true → ∀ y ∈ m, rowOk y = true
  | x :: m, p, h, y, hy => by
    simp only [mL, Bool.and_eq_true] at h
    rcases List.mem_cons.1 hy with e | e
    · subst e; exact h.1.1
    · exact mL_mem h.2 y e

theorem k_sModelOk : SoundC Try.prog K_sModelOk.1 K_sModelOk.2 := sound_of hm ((((CtxOK.nil.and k_l7Fit).and k_l4Find).and k_l7Right).and k_sSigOk) (fun x => A_sModelOk x.1 x.2) (by kernel_rfl) fun (x : Sig × Mdl) hl => (by
  rw [← vc_sModelOk x]
  obtain ⟨h1, h2⟩ : SmG x.1 ∧ SmM x.2 := hl
  obtain ⟨s, m⟩ := x
  dsimp only at *
  simp [-List.getD_eq_getElem?_getD, -List.mem_cons, -Bool.forall_bool, -Bool.exists_bool, and_assoc, peta, tl_inj, ex_1, ex_2, ex_3, ex_4, ex_5, ex_6, ex_7, ex_8, ex_9, ey_2, ey_3, ey_4, ey_5, ey_6, ey_7, ey_8, ey_9]
  have hlen := h2.len
  have nos : sigOk s = false → modelOk s m = false := fun h => by simp [modelOk, h]
  have nom : mRight m = false → modelOk s m = false := fun h => by simp [modelOk, h]
  refine ⟨h1, nos, fun hs => ⟨h2, nom, fun hm' => ⟨⟨0, by simp, by simp [modelOk, hs, hm'], rfl⟩, fun k hk he => ⟨fun hlt => ?_, fun hge => by rw [he, drop_end (by omega)]; rfl⟩⟩⟩⟩
  rw [drop_get dR hlt, List.all_cons] at he
  have hr := h2.mem (getD_mem dR hlt)
  generalize m.getD k dR = r at *
  have no : rowFits s r = false → modelOk s m = false := fun h => by rw [he, h]; rfl
  refine ⟨hlt, h1, fun h => no (by simp [rowFits, h]), fun hf => ⟨hlt, fun h => no ?_, fun hl2 => ⟨hlt, fun h => no (by simp [rowFits, h]), fun hv => ⟨hlt, ⟨0, by simp, by omega, ?_, rfl⟩, fun j _ hj _ hj2 => ⟨fun hjl => ?_, fun hge => ?_⟩⟩⟩⟩⟩
  · simp only [rowFits]; rw [decide_eq_false (by omega)]; simp
  · simp only [rowFits, List.drop_zero, hf, hv, Bool.true_and]; rw [decide_eq_true (by omega)]; simp
  · rw [fit_step (by omega) hjl] at hj2
    exact ⟨hlt, by omega, hjl, fun h => no (by rw [hj2, h]; rfl), fun h => ⟨hlt, j + 1, by omega, by omega, by rw [hj2, h]; rfl, by omega, wrap_small (by omega) (by omega)⟩⟩
  · rw [fit_end (by omega)] at hj2
    exact ⟨k + 1, hlt, by rw [he, hj2]; rfl, by omega, wrap_small (by omega) (by omega)⟩)
theorem k_iModelOk : SoundC Try.prog K_iModelOk.1 K_iModelOk.2 := sound_of hm ((((CtxOK.nil.and k_suits).and k_symbol).and k_iModel).and k_iSigOk) (fun x => A_iModelOk x.1 x.2) (by kernel_rfl) fun (x : Sig × Mdl) hl => (by
  rw [← vc_iModelOk x]
  obtain ⟨h1, h2⟩ : SmG x.1 ∧ SmM x.2 := hl
  obtain ⟨s, m⟩ := x
  dsimp only at *
  simp [-List.getD_eq_getElem?_getD, -List.mem_cons, -Bool.forall_bool, -Bool.exists_bool, and_assoc, peta, tl_inj, ex_1, ex_2, ex_3, ex_4, ex_5, ex_6, ex_7, ex_8, ex_9, ey_2, ey_3, ey_4, ey_5, ey_6, ey_7, ey_8, ey_9]
  have hlen := h2.len
  have nos : sigOk s = false → modelOk s m = false := fun h => by simp [modelOk, h]
  have nom : mRight m = false → modelOk s m = false := fun h => by simp [modelOk, h]
  have hmr : mRight m = true → mL none m = true := fun h => by unfold mRight at h; exact (Bool.and_eq_true _ _ ▸ h).1
  refine ⟨h1, nos, fun hs => ⟨h2, nom, fun hm' => ⟨⟨0, by simp, by simp [modelOk, hs, hm'], hmr hm', rfl⟩, fun k hk he hm2 => ⟨fun hlt => ?_, fun hge => by rw [he, drop_end (by omega)]; rfl⟩⟩⟩⟩
  rw [drop_get dR hlt, List.all_cons] at he
  have hr := h2.mem (getD_mem dR hlt)
  obtain ⟨_, _, q1, q2⟩ := rowOk_iff.1 (mL_mem hm2 _ (getD_mem dR hlt))
  generalize m.getD k dR = r at *
  have no : rowFits s r = false → modelOk s m = false := fun h => by rw [he, h]; rfl
  refine ⟨hlt, h1, fun h => no (by simp [rowFits, h]), fun hf => ⟨fun h => no ?_, fun hl2 => ⟨fun h => no (by simp [rowFits, fit, h]), fun hv => ⟨hlt, ⟨0, by simp, by omega, ?_, rfl⟩, fun j _ hj _ hj2 => ⟨fun hjl => ?_, fun hge => ?_⟩⟩⟩⟩⟩
  · simp only [rowFits]; rw [decide_eq_false (by omega)]; simp
  · simp only [rowFits, List.drop_zero, hf, fit, q1, hv, Bool.true_and]; rw [decide_eq_true (by omega)]; simp
  · rw [fit_step hjl (by omega)] at hj2
    have hq : ratOk (r.2.1.getD j dQ) = true := List.all_eq_true.1 q2 _ (getD_mem dQ hjl)
    simp only [fit, hq, Bool.true_and] at hj2
    exact ⟨hjl, by omega, fun h => no (by rw [hj2, h]; rfl), fun h => ⟨hlt, j + 1, by omega, by omega, by rw [hj2, h]; rfl, by omega, wrap_small (by omega) (by omega)⟩⟩
  · rw [fit_end (by omega)] at hj2
    exact ⟨k + 1, hlt, by rw [he, hj2]; rfl, hm2, by omega, wrap_small (by omega) (by omega)⟩)
end Cg

/-
  What is left to show of each function's code, printed by a program: Draw. No condition.
-/
set_option maxRecDepth 100000
set_option linter.unusedVariables false
namespace Cg
open Go Go.Proofs
theorem vc_l16Open (b : List Int) : (condP (Decidable.decide ((↑b.length : Int) > (2000 : Int)))
 (((0 : Int) ≤ (2000 : Int) ∧ (2000 : Int) ≤ (↑b.length : Int)) ∧
 Exists fun (y : List Int) => Rd (0 : Int) y (0 : Int) ∧ ((0 : Nat) = (0 : Nat) ∧ True) ∧ (Is (AV.sl (2000 : Nat) (1 : Nat) (cU b)) (byts y) ∧ (0 : Int) = (0 : Int) ∧ True) ∧ True)
 (Exists fun (y : List Int) => Rd (0 : Int) y (0 : Int) ∧ ((0 : Nat) = (0 : Nat) ∧ True) ∧ (Is (byts b) (byts y) ∧ (0 : Int) = (0 : Int) ∧ True) ∧ True)) = Goal Try.prog [] ([]) K_l16Open.1 K_l16Open.2 (b) := by kernel_rfl

theorem vc_pick (b : List Int) (p n : Int) : (condP (Decidable.decide (n < (1 : Int)))
 (Exists fun (y : Int) =>
 (((1 : Int) ≤ n → (0 : Int) ≤ y ∧ y < n) ∧ (n < (1 : Int) → y = (0 : Int))) ∧
 ((0 : Int) = y ∧ True) ∧ (Is (byts b) (byts b) ∧ IntKind.i64.wrap (p + (1 : Int)) = p + (1 : Int) ∧ True) ∧ True)
 (condP ((↑b.length : Int) == (0 : Int))
 (Exists fun (y : Int) =>
 (((1 : Int) ≤ n → (0 : Int) ≤ y ∧ y < n) ∧ (n < (1 : Int) → y = (0 : Int))) ∧
 ((0 : Int) = y ∧ True) ∧ (Is (byts b) (byts b) ∧ IntKind.i64.wrap (p + (1 : Int)) = p + (1 : Int) ∧ True) ∧ True)
 (condP (Decidable.decide (IntKind.i64.wrap (IntKind.i64.wrap (p + (1 : Int)) - (1 : Int)) < (↑b.length : Int)))
 (((0 : Int) ≤ IntKind.i64.wrap (IntKind.i64.wrap (p + (1 : Int)) - (1 : Int)) ∧ IntKind.i64.wrap (IntKind.i64.wrap (p + (1 : Int)) - (1 : Int)) < (↑b.length : Int)) ∧
 (IntKind.i64.wrap (IntKind.i64.wrap (p + (1 : Int)) - (1 : Int))).toNat < b.length ∧
 n ≠ (0 : Int) ∧
 Exists fun (y : Int) =>
 (((1 : Int) ≤ n → (0 : Int) ≤ y ∧ y < n) ∧ (n < (1 : Int) → y = (0 : Int))) ∧
 ((IntKind.i64.wrap (b.getD (IntKind.i64.wrap (IntKind.i64.wrap (p + (1 : Int)) - (1 : Int))).toNat (0 : Int))).tmod n = y ∧ True) ∧
 (Is (byts b) (byts b) ∧ IntKind.i64.wrap (p + (1 : Int)) = p + (1 : Int) ∧ True) ∧ True)
 ((↑b.length : Int) ≠ (0 : Int) ∧
 ((0 : Int) ≤ (IntKind.i64.wrap (IntKind.i64.wrap (p + (1 : Int)) - (1 : Int))).tmod (↑b.length : Int) ∧
 (IntKind.i64.wrap (IntKind.i64.wrap (p + (1 : Int)) - (1 : Int))).tmod (↑b.length : Int) < (↑b.length : Int)) ∧
 ((IntKind.i64.wrap (IntKind.i64.wrap (p + (1 : Int)) - (1 : Int))).tmod (↑b.length : Int)).toNat < b.length ∧
 (↑b.length : Int) ≠ (0 : Int) ∧
 ((0 : Int) ≤ (IntKind.i64.wrap (IntKind.i64.wrap (IntKind.i64.wrap (IntKind.i64.wrap (p + (1 : Int)) - (1 : Int)) * (7 : Int)) + (3 : Int))).tmod (↑b.length : Int) ∧
 (IntKind.i64.wrap (IntKind.i64.wrap (IntKind.i64.wrap (IntKind.i64.wrap (p + (1 : Int)) - (1 : Int)) * (7 : Int)) + (3 : Int))).tmod (↑b.length : Int) <
 (↑b.length : Int)) ∧
 ((IntKind.i64.wrap (IntKind.i64.wrap (IntKind.i64.wrap (IntKind.i64.wrap (p + (1 : Int)) - (1 : Int)) * (7 : Int)) + (3 : Int))).tmod (↑b.length : Int)).toNat < b.length ∧
 (↑b.length : Int) ≠ (0 : Int) ∧
 (64 : Int) ≠ (0 : Int) ∧
 n ≠ (0 : Int) ∧
 Exists fun (y : Int) =>
 (((1 : Int) ≤ n → (0 : Int) ≤ y ∧ y < n) ∧ (n < (1 : Int) → y = (0 : Int))) ∧
 ((IntKind.i64.wrap
 (↑(BitVec.ofInt (64 : Nat)
 (IntKind.i64.wrap
 (IntKind.i64.wrap
 (IntKind.i64.wrap
 (IntKind.i64.wrap
 (IntKind.i64.wrap
 (b.getD ((IntKind.i64.wrap (IntKind.i64.wrap (p + (1 : Int)) - (1 : Int))).tmod (↑b.length : Int)).toNat (0 : Int)) *
 (131 : Int)) +
 IntKind.i64.wrap
 (IntKind.i64.wrap
 (b.getD
 ((IntKind.i64.wrap
 (IntKind.i64.wrap (IntKind.i64.wrap (IntKind.i64.wrap (p + (1 : Int)) - (1 : Int)) * (7 : Int)) +
 (3 : Int))).tmod
 (↑b.length : Int)).toNat
 (0 : Int)) *
 (1117 : Int))) +
 IntKind.i64.wrap (IntKind.i64.wrap (IntKind.i64.wrap (p + (1 : Int)) - (1 : Int)) * (29 : Int))) +
 IntKind.i64.wrap
 (IntKind.i64.wrap ((IntKind.i64.wrap (IntKind.i64.wrap (p + (1 : Int)) - (1 : Int))).tdiv (↑b.length : Int)) * (53 : Int)))) ^^^
 BitVec.ofInt (64 : Nat)
 (IntKind.i64.wrap
 ((IntKind.i64.wrap
 (IntKind.i64.wrap
 (IntKind.i64.wrap
 (IntKind.i64.wrap
 (IntKind.i64.wrap
 (b.getD ((IntKind.i64.wrap (IntKind.i64.wrap (p + (1 : Int)) - (1 : Int))).tmod (↑b.length : Int)).toNat (0 : Int)) *
 (131 : Int)) +
 IntKind.i64.wrap
 (IntKind.i64.wrap
 (b.getD
 ((IntKind.i64.wrap
 (IntKind.i64.wrap (IntKind.i64.wrap (IntKind.i64.wrap (p + (1 : Int)) - (1 : Int)) * (7 : Int)) +
 (3 : Int))).tmod
 (↑b.length : Int)).toNat
 (0 : Int)) *
 (1117 : Int))) +
 IntKind.i64.wrap (IntKind.i64.wrap (IntKind.i64.wrap (p + (1 : Int)) - (1 : Int)) * (29 : Int))) +
 IntKind.i64.wrap
 (IntKind.i64.wrap ((IntKind.i64.wrap (IntKind.i64.wrap (p + (1 : Int)) - (1 : Int))).tdiv (↑b.length : Int)) * (53 : Int)))).tdiv
 (64 : Int)))).toNat :
 Int)).tmod
 n =
 y ∧
 True) ∧
 (Is (byts b) (byts b) ∧ IntKind.i64.wrap (p + (1 : Int)) = p + (1 : Int) ∧ True) ∧ True)))) = Goal Try.prog [] ([]) K_pick.1 K_pick.2 ((b, p, n)) := by kernel_rfl

theorem vc_num (b : List Int) (p : Int) (l : List Int) : (Exists fun (x : List Int × Int × Int) =>
 Rd (1099511627776 : Int) x.fst x.snd.fst ∧
 (((0 : Nat) = (0 : Nat) ∧ (↑l.length : Int) = x.snd.snd ∧ True) ∧ (Is (byts b) (byts x.fst) ∧ p = x.snd.fst ∧ True) ∧ True) ∧
 ∀ (y : Int),
 ((1 : Int) ≤ x.snd.snd → (0 : Int) ≤ y ∧ y < x.snd.snd) ∧ (x.snd.snd < (1 : Int) → y = (0 : Int)) →
 ((0 : Int) ≤ y ∧ y < (↑l.length : Int)) ∧
 y.toNat < l.length ∧
 Exists fun (y_1 : Int) => y_1 ∈ l ∧ (l.getD y.toNat (0 : Int) = y_1 ∧ True) ∧ (Is (byts x.fst) (byts b) ∧ x.snd.fst + (1 : Int) = p + (1 : Int) ∧ True) ∧ True) = Goal Try.prog [K_pick] ([]) K_num.1 K_num.2 ((b, p, l)) := by kernel_rfl

end Cg

/-
  What is left to show of each function's code, printed by a program: Units. No condition.
-/
set_option maxRecDepth 100000
set_option linter.unusedVariables false
namespace Cg
open Go Go.Proofs
end Cg

/-
  Unit propagation: plain laws. No condition.
-/
set_option linter.unusedVariables false
namespace Pl
open Go Cg

/-- A mark of at most sixty variables. -/
def Mk (x : Int) : Prop := x ≠ 0 ∧ -60 ≤ x ∧ x ≤ 60
theorem Mk.wneg {x : Int} (h : Mk x) : Pl.wneg x = -x := by
  obtain ⟨h1, h2, h3⟩ := h
  unfold Pl.wneg; rw [Cg.wrap_small (by omega) (by omega)]; omega
theorem absW_of {x : Int} (h : Mk x) : absW x = if x < 0 then -x else x := by
  obtain ⟨h1, h2, h3⟩ := h
  unfold absW Pl.wneg
  rw [if_neg (by omega), if_neg (by omega)]
  split
  · rw [Cg.wrap_small (by omega) (by omega)]; omega
  · rfl
theorem take_succ_getD {α : Type} (d : α) {l : List α} {i : Nat} (h : i < l.length) : l.take (i + 1) = l.take i ++ [l.getD i d] := by
  rw [List.take_succ_eq_append_getElem h]; simp [h]
end Pl

/-
  What is left to show of each function's code, printed by a program: Cnf. No condition.
-/
set_option maxRecDepth 100000
set_option linter.unusedVariables false
namespace Cg
open Go Go.Proofs
end Cg

/-
  The codes' contracts: clause sets. No condition.
-/
set_option linter.unusedVariables false
set_option linter.unusedSimpArgs false
set_option maxRecDepth 100000
namespace Cg
open Go Go.Proofs

end Cg

/-
  The codes' contracts: unit propagation. No condition.
-/
set_option linter.unusedVariables false
set_option linter.unusedSimpArgs false
set_option maxRecDepth 100000
namespace Cg
open Go Go.Proofs

end Cg

/-
  The codes' contracts: the reader. No condition.
-/
set_option linter.unusedVariables false
set_option linter.unusedSimpArgs false
set_option maxRecDepth 100000
namespace Cg
open Go Go.Proofs

theorem Rd.mono {m m' : Int} {b : List Int} {p : Int} (h : Rd m b p) (hm : m ≤ m') : Rd m' b p := ⟨h.1, h.2.1, h.2.2.1, Int.le_trans h.2.2.2 hm⟩
theorem Rd.add {m m' : Int} {b : List Int} {p p' : Int} (h : Rd m b p) (h1 : p ≤ p') (h2 : p' ≤ m') : Rd m' b p' := ⟨h.1, h.2.1, Int.le_trans h.2.2.1 h1, h2⟩

theorem k_l16Open : SoundC Try.prog K_l16Open.1 K_l16Open.2 := sound_of hm CtxOK.nil (fun _ => []) (by kernel_rfl) fun (b : List Int) hb => cast (vc_l16Open b) (by
  obtain ⟨h1, h2⟩ : Sz b ∧ Byt b := hb
  simp [-List.getD_eq_getElem?_getD, and_assoc]
  refine ⟨fun h => ⟨by omega, b.take 2000, ⟨by simp; omega, fun x hx => h2 x (List.mem_of_mem_take hx), Int.le_refl 0, Int.le_refl 0⟩, (byts_take (by omega)).2 rfl⟩, fun h => ⟨by omega, h2, Int.le_refl 0, Int.le_refl 0⟩⟩)

theorem xor_nonneg {E : Int} (h0 : 0 ≤ E) (h1 : E < 281474976710656) : 0 ≤ IntKind.i64.wrap ((BitVec.ofInt 64 E ^^^ BitVec.ofInt 64 (IntKind.i64.wrap (E.tdiv 64))).toNat : Int) := by
  have d1 : 0 ≤ E.tdiv 64 := Int.tdiv_nonneg h0 (by omega)
  have d2 : E.tdiv 64 ≤ E := Int.tdiv_le_self _ h0
  rw [wrap_small (x := E.tdiv 64) (by omega) (by omega)]
  have e : ∀ x : Int, 0 ≤ x → x < 281474976710656 → (BitVec.ofInt 64 x).toNat < 2 ^ 48 := fun x h h' => by
    rw [BitVec.toNat_ofInt]
    have : x % ((2 ^ 64 : Nat) : Int) = x := Int.emod_eq_of_lt h (by omega)
    rw [this]; omega
  have h : (BitVec.ofInt 64 E ^^^ BitVec.ofInt 64 (E.tdiv 64)).toNat < 2 ^ 48 := by
    rw [BitVec.toNat_xor]
    exact Nat.xor_lt_two_pow (e E h0 h1) (e _ d1 (by omega))
  rw [wrap_small (by omega) (by omega)]
  omega

set_option maxHeartbeats 2000000 in
theorem k_pick : SoundC Try.prog K_pick.1 K_pick.2 := sound_of hm CtxOK.nil (fun _ => []) (by kernel_rfl) fun (b, p, n) hb => cast (vc_pick b p n) (by
  obtain ⟨h1, h2, h3, h4⟩ : Rd 1099511627776 b p := hb
  rw [wrap_small (x := p + 1) (by omega) (by omega), show p + 1 - 1 = p by omega, wrap_small (x := p) (by omega) (by omega)]
  simp only [condP_iff, decide_eq_true_eq, decide_eq_false_iff_not, beq_iff_eq, beq_eq_false_iff_ne, ne_eq]
  refine ⟨fun h => ⟨0, ⟨fun h' => absurd h' (by omega), fun _ => rfl⟩, by simp⟩, fun h => ⟨fun h' => ⟨0, ⟨fun _ => ⟨by omega, by omega⟩, fun _ => rfl⟩, by simp⟩, fun h' => ?_⟩⟩
  have hL : (0 : Int) < b.length := by
    omega
  have byte : ∀ i, i < b.length → 0 ≤ b.getD i 0 ∧ b.getD i 0 < 256 := fun i hi => h2 _ (getD_mem 0 hi)
  have tm : ∀ x : Int, 0 ≤ x → 0 ≤ x.tmod b.length ∧ x.tmod b.length < b.length := fun x hx => ⟨Int.tmod_nonneg _ hx, Int.tmod_lt_of_pos _ hL⟩
  refine ⟨fun hlt => ?_, fun hge => ?_⟩
  · obtain ⟨b1, b2⟩ := byte p.toNat (by omega)
    refine ⟨⟨by omega, hlt⟩, by omega, by omega, _, ⟨fun _ => ⟨?_, ?_⟩, fun h'' => absurd h'' (by omega)⟩, ⟨rfl, trivial⟩, by simp⟩
    · rw [wrap_small (by omega) (by omega)]; exact Int.tmod_nonneg _ b1
    · exact Int.tmod_lt_of_pos _ (by omega)
  · have e1 : IntKind.i64.wrap (p * 7) = p * 7 := wrap_small (by omega) (by omega)
    have e2 : IntKind.i64.wrap (p * 7 + 3) = p * 7 + 3 := wrap_small (by omega) (by omega)
    simp only [e1, e2]
    obtain ⟨t1, t2⟩ := tm p h3
    obtain ⟨t3, t4⟩ := tm (p * 7 + 3) (by omega)
    obtain ⟨a1, a2⟩ := byte (p.tmod b.length).toNat (by omega)
    obtain ⟨a3, a4⟩ := byte ((p * 7 + 3).tmod b.length).toNat (by omega)
    have d1 : 0 ≤ p.tdiv b.length := Int.tdiv_nonneg h3 (by omega)
    have d2 : p.tdiv b.length ≤ p := Int.tdiv_le_self _ h3
    refine ⟨by omega, ⟨t1, t2⟩, by omega, by omega, ⟨t3, t4⟩, by omega, by omega, by omega, by omega, ?_⟩
    generalize b.getD (p.tmod b.length).toNat 0 = A at a1 a2 ⊢
    generalize b.getD ((p * 7 + 3).tmod b.length).toNat 0 = B at a3 a4 ⊢
    generalize p.tdiv b.length = D at d1 d2 ⊢
    have e3 : IntKind.i64.wrap A = A := wrap_small (by omega) (by omega)
    have e4 : IntKind.i64.wrap (A * 131) = A * 131 := wrap_small (by omega) (by omega)
    have e5 : IntKind.i64.wrap B = B := wrap_small (by omega) (by omega)
    have e6 : IntKind.i64.wrap (B * 1117) = B * 1117 := wrap_small (by omega) (by omega)
    have e7 : IntKind.i64.wrap (A * 131 + B * 1117) = A * 131 + B * 1117 := wrap_small (by omega) (by omega)
    have e8 : IntKind.i64.wrap (p * 29) = p * 29 := wrap_small (by omega) (by omega)
    have e9 : IntKind.i64.wrap (A * 131 + B * 1117 + p * 29) = A * 131 + B * 1117 + p * 29 := wrap_small (by omega) (by omega)
    have e10 : IntKind.i64.wrap D = D := wrap_small (by omega) (by omega)
    have e11 : IntKind.i64.wrap (D * 53) = D * 53 := wrap_small (by omega) (by omega)
    have e12 : IntKind.i64.wrap (A * 131 + B * 1117 + p * 29 + D * 53) = A * 131 + B * 1117 + p * 29 + D * 53 := wrap_small (by omega) (by omega)
    simp only [e3, e4, e5, e6, e7, e8, e9, e10, e11, e12]
    have hE : 0 ≤ A * 131 + B * 1117 + p * 29 + D * 53 ∧ A * 131 + B * 1117 + p * 29 + D * 53 < 281474976710656 := by omega
    generalize A * 131 + B * 1117 + p * 29 + D * 53 = E at hE
    refine ⟨_, ⟨fun _ => ⟨Int.tmod_nonneg _ (xor_nonneg hE.1 hE.2), Int.tmod_lt_of_pos _ (by omega)⟩, fun h'' => absurd h'' (by omega)⟩, ⟨rfl, trivial⟩, by simp⟩)

end Cg

/-
  Drawn clause sets: plain laws. No condition.
-/
set_option linter.unusedVariables false
set_option linter.unusedSimpArgs false
namespace Pl
open Go Cg

theorem lIs_neg {x : Int} {v : List Bool} (h0 : x ≠ 0) (h1 : x ≤ v.length) (h2 : -(v.length : Int) ≤ x) : lIs (-x) v = !lIs x v := by
  have e1 : ¬ (-x = 0 ∨ -x > (v.length : Int) ∨ -x < -(v.length : Int)) := by omega
  have e2 : ¬ (x = 0 ∨ x > (v.length : Int) ∨ x < -(v.length : Int)) := by omega
  unfold lIs
  rw [if_neg e1, if_neg e2]
  by_cases h : x < 0
  · have e3 : ¬ -x < 0 := by omega
    rw [if_neg e3, if_pos h, Bool.not_not]; congr 2; omega
  · have e3 : -x < 0 := by omega
    rw [if_pos e3, if_neg h]; congr 3; omega
theorem Mk.le_abs {x n : Int} (h : Mk x) (h1 : absW x ≤ n) : x ≤ n ∧ -n ≤ x := by
  rw [absW_of h] at h1
  split at h1 <;> omega
theorem Mk.lIs {x : Int} {v : List Bool} (h : Mk x) (h1 : absW x ≤ v.length) : Pl.lIs (Pl.wneg x) v = !Pl.lIs x v := by
  obtain ⟨h2, h3⟩ := h.le_abs h1
  rw [h.wneg]
  exact lIs_neg h.1 h2 h3

end Pl

/-
  The codes' contracts: drawn clause sets. No condition.
-/
set_option linter.unusedVariables false
set_option linter.unusedSimpArgs false
set_option maxRecDepth 100000
namespace Cg
open Go Go.Proofs

theorem k_num : SoundC Try.prog K_num.1 K_num.2 := sound_of hm (CtxOK.nil.and k_pick) (fun _ => []) (by kernel_rfl) fun (b, p, l) hb => cast (vc_num b p l) (by
  obtain ⟨h1, h2, h3⟩ : Rd 1099511627776 b p ∧ l ≠ [] ∧ Sz l := hb
  simp [-List.getD_eq_getElem?_getD, and_assoc]
  have hl : 0 < l.length := List.length_pos_iff.2 h2
  exact ⟨b, p, h1, rfl, rfl, fun y h4 h5 => by
    obtain ⟨h6, h7⟩ := h4 (by omega)
    exact ⟨h6, h7, by omega, _, getD_mem 0 (by omega), rfl, rfl, rfl⟩⟩)

end Cg

/-
  The codes' contracts: drawn clause sets, the rest. No condition.
-/
set_option linter.unusedVariables false
set_option linter.unusedSimpArgs false
set_option maxRecDepth 100000
namespace Cg
open Go Go.Proofs


theorem Rd.to {m m' : Int} {b : List Int} {p p' : Int} (h : Rd m b p) (h1 : 0 ≤ p') (h2 : p' ≤ m') : Rd m' b p' := ⟨h.1, h.2.1, h1, h2⟩
theorem Rds.two {v w : List Int} {a b : AV} (h1 : Is a (ints v)) (h2 : Is b (ints w)) : Rds 1 eII [] 2 (rowsCell [[a], [b]]) [v, w] := ⟨rfl, fun i hi j hj => by
  match i, j, hi, hj with
  | 0, 0, _, _ => exact h1
  | 1, 0, _, _ => exact h2⟩
theorem Rds.one {v : List Int} {a : AV} (h1 : Is a (ints v)) : Rds 1 eII [] 1 (rowsCell [[a]]) [v] := ⟨rfl, fun i hi j hj => by
  match i, j, hi, hj with
  | 0, 0, _, _ => exact h1⟩

theorem Sm.len {a : Int} {l : List (List Int)} (h : Sm (a, l)) : a ≤ 61 ∧ l.length ≤ 100 ∧ ∀ x ∈ l, x.length ≤ 100 := h
end Cg

/-
  The codes' contracts: laws of drawn clause sets. No condition.
-/
set_option linter.unusedVariables false
set_option linter.unusedSimpArgs false
set_option maxRecDepth 100000
namespace Cg
open Go Go.Proofs

theorem byt_of {l : List Int} (h : ∀ x ∈ l, (Lit.int .u8 x).wf = true) : Byt l := fun x hx => by
  have := h x hx
  simp [Lit.wf, IntKind.min, IntKind.max, IntKind.signed, IntKind.bits] at this
  omega
end Cg

/-
  The codes' contracts: drawn models. No condition.
-/
set_option linter.unusedVariables false
set_option linter.unusedSimpArgs false
set_option maxRecDepth 100000
namespace Cg
open Go Go.Proofs Pl
theorem map_range_get {α : Type} {L : List α} {r : α} (d : α) {x : Nat} (hx : x ≤ L.length) : (List.range x).map (fun i => (L ++ [r]).getD i d) = L.take x := by
  refine List.ext_getElem (by simp; omega) fun i h1 h2 => ?_
  have hi : i < x := by simpa using h1
  simp only [List.getElem_map, List.getElem_range, List.getElem_take]
  rw [getD_left d (by omega)]
  simp [show i < L.length by omega]
theorem map_range'_get {α : Type} {L : List α} {r : α} (d : α) {x : Nat} (hx : x ≤ L.length) : (List.range' x (L.length - x)).map (fun i => (L ++ [r]).getD i d) = L.drop x := by
  refine List.ext_getElem (by simp) fun i h1 h2 => ?_
  have hi : i < L.length - x := by simpa using h1
  simp only [List.getElem_map, List.getElem_range', List.getElem_drop]
  rw [getD_left d (by omega)]
  simp [show x + i < L.length by omega]
/-- The places, with the last one put in at x. -/
def insI (x n : Nat) : List Nat := List.range x ++ [n] ++ List.range' x (n - x)
theorem insI_len {x n : Nat} (h : x ≤ n) : (insI x n).length = n + 1 := by unfold insI; simp; omega
theorem hput_ins {x n : Nat} (h : x ≤ n) : HPut n (insI x n) := by
  refine ⟨by rw [insI_len h]; omega, ?_, fun i hi => ?_⟩
  · unfold insI
    rw [List.nodup_append, List.nodup_append]
    refine ⟨⟨List.nodup_range, by simp, fun a ha b hb => ?_⟩, List.nodup_range', fun a ha b hb => ?_⟩
    · have := List.mem_range.1 ha
      rw [List.mem_singleton.1 hb]; omega
    · obtain ⟨k, hk, rfl⟩ := List.mem_range'.1 hb
      rcases List.mem_append.1 ha with e | e
      · have := List.mem_range.1 e; omega
      · rw [List.mem_singleton.1 e]; omega
  · unfold insI at hi
    rcases List.mem_append.1 hi with e | e
    · rcases List.mem_append.1 e with e | e
      · have := List.mem_range.1 e; omega
      · rw [List.mem_singleton.1 e]; omega
    · obtain ⟨k, hk, rfl⟩ := List.mem_range'.1 e
      omega
theorem map_insI {α : Type} {L : List α} {r : α} (d : α) {x : Nat} (hx : x ≤ L.length) : (insI x L.length).map (fun i => (L ++ [r]).getD i d) = L.take x ++ [r] ++ L.drop x := by
  unfold insI
  rw [List.map_append, List.map_append, map_range_get d hx, map_range'_get d hx]
  simp only [List.map_cons, List.map_nil, getD_last d]
theorem row_rH {r : HRw} {j : Nat} (hj : j < 4) : Is ([st r.snd.fst, hdQ r.fst r.snd.snd.fst, i64 r.snd.snd.snd.fst, i64 r.snd.snd.snd.snd].getD j .any) (eRH r j) := by
  match j, hj with
  | 0, _ => exact EncN.eRH.self r (j := 0) (by decide)
  | 1, _ => exact EncN.eRH.self r (j := 1) (by decide)
  | 2, _ => exact EncN.eRH.self r (j := 2) (by decide)
  | 3, _ => exact EncN.eRH.self r (j := 3) (by decide)
theorem k_l7Put : SoundC Try.prog K_l7Put.1 K_l7Put.2 := sound_of hm ((CtxOK.nil.and k_l7Rats).and k_l7Less) (fun (L, r) => A_l7Put L r) (by kernel_rfl) fun (L, r) hb => (by
  obtain ⟨h1, h2, h3⟩ : L.length ≤ 1000 ∧ (∀ y ∈ L, y.2.2.1.length ≤ 1000) ∧ r.2.2.1.length ≤ 1000 := hb
  rw [← vc_l7Put L r]
  simp [-List.getD_eq_getElem?_getD, -List.mem_cons, -Bool.forall_bool, -Bool.exists_bool, and_assoc, peta, tl_inj, ex_1, ex_2, ex_3, ex_4, ex_5, ex_6, ex_7, ex_8, ex_9, ey_2, ey_3, ey_4, ey_5, ey_6, ey_7, ey_8, ey_9]
  have same : ∃ y, HPut L.length y ∧ L.length = y.length ∧ (y = [] ∨ L = List.map (fun i => (L ++ [r]).getD i dH) y) :=
    ⟨List.range L.length, ⟨by simp, List.nodup_range, fun i hi => by have := List.mem_range.1 hi; omega⟩, by simp, .inr (by rw [map_range_get dH (Nat.le_refl _), List.take_length])⟩
  have fin : ∀ x, x ≤ L.length → x ≤ L.length ∧ x + (L.length - x) ≤ L.length ∧ (L.length - x) * 56 ≤ 70368744177664 ∧ x ≤ L.length ∧ x * 56 ≤ 70368744177664 ∧ (x + 1) * 56 ≤ 70368744177664 ∧ (x + 1 + (L.length - x)) * 56 ≤ 70368744177664 ∧
      ∃ y, HPut L.length y ∧ x + 1 + (L.length - x) = y.length ∧ IsO (AObj.arr (x + 1 + (L.length - x)) 4 (joinC (x + 1) (fun i j => joinC x (cRH L) (rowsCell [[st r.snd.fst, hdQ r.fst r.snd.snd.fst, i64 r.snd.snd.snd.fst, i64 r.snd.snd.snd.snd]]) i j) fun i j => joinC 0 (rowsCell []) (fun i j => eRH (L.getD (i + x) dH) j) i j)) (arRH (List.map (fun i => (L ++ [r]).getD i dH) y)) := fun x hx => by
    refine ⟨hx, by omega, by omega, hx, by omega, by omega, by omega, insI x L.length, hput_ins hx, by rw [insI_len hx]; omega, ?_⟩
    rw [map_insI dH hx]
    have hR := ((Rds.take (d := dH) EncN.eRH hx).join (Rds.row (v := r) (IsR_row EncN.eRH fun j hj => row_rH hj))).join ((Rds.nil (c := rowsCell [])).join (Rds.drop EncN.eRH L x))
    exact (hR.cong (n' := x + 1 + (L.length - x)) (by omega) rfl (by simp)).iso
  refine ⟨⟨0, by omega, rfl⟩, fun x hx => ⟨fun hlt => ?_, fun hge => ?_⟩⟩
  · have h4 := h2 _ (getD_mem dH hlt)
    exact ⟨hlt, by omega, fun _ => ⟨x + 1, by omega, by omega, wrap_succ hlt (by omega)⟩, fun _ => ⟨fun _ => ⟨hlt, fun _ => ⟨hlt, by omega, fun _ => same, fun _ => fin x hx⟩, fun _ => fin x hx⟩, fun _ => fin x hx⟩⟩
  · exact ⟨fun h => absurd h (by omega), fun _ => fin x hx⟩)
theorem k_l7PutX : SoundC Try.prog K_l7PutX.1 K_l7PutX.2 := put_own k_l7Put
end Cg

/-
  What is left to show of each function's code, printed by a program: Mlt. No condition.
-/
set_option maxRecDepth 100000
set_option linter.unusedVariables false
namespace Cg
open Go Go.Proofs
theorem vc_l1Least (x : Int × Int) : (condP (Decidable.decide (x.fst < (0 : Int)))
 (Exists fun (x_1 : Nat × Nat) =>
 (IntKind.i64.wrap ((0 : Int) - x.fst) = (↑x_1.fst : Int) ∧ x.snd = (↑x_1.snd : Int) ∧ True) ∧
 (x_1.fst ≤ (4611686018427387904 : Nat) ∧ x_1.snd ≤ (4611686018427387904 : Nat)) ∧
 (↑(x_1.fst.gcd x_1.snd) : Int) ≠ (0 : Int) ∧
 (↑(x_1.fst.gcd x_1.snd) : Int) ≠ (0 : Int) ∧
 Exists fun (x_2 : Pl.Rt) =>
 ((IntKind.i64.wrap (x.fst.tdiv (↑(x_1.fst.gcd x_1.snd) : Int)) = x_2.fst ∧ IntKind.i64.wrap (x.snd.tdiv (↑(x_1.fst.gcd x_1.snd) : Int)) = x_2.snd ∧ True) ∧ True) ∧
 True ∧
 condP (!Pl.ratOk x_2)
 (((0 : Int) = (Pl.ratV (Pl.least x.fst x.snd)).fst ∧ (0 : Int) = (Pl.ratV (Pl.least x.fst x.snd)).snd ∧ True) ∧ Bool.false = (Pl.least x.fst x.snd).isSome ∧ True)
 ((IntKind.i64.wrap (x.fst.tdiv (↑(x_1.fst.gcd x_1.snd) : Int)) = (Pl.ratV (Pl.least x.fst x.snd)).fst ∧
 IntKind.i64.wrap (x.snd.tdiv (↑(x_1.fst.gcd x_1.snd) : Int)) = (Pl.ratV (Pl.least x.fst x.snd)).snd ∧ True) ∧
 Bool.true = (Pl.least x.fst x.snd).isSome ∧ True))
 (Exists fun (x_1 : Nat × Nat) =>
 (x.fst = (↑x_1.fst : Int) ∧ x.snd = (↑x_1.snd : Int) ∧ True) ∧
 (x_1.fst ≤ (4611686018427387904 : Nat) ∧ x_1.snd ≤ (4611686018427387904 : Nat)) ∧
 (↑(x_1.fst.gcd x_1.snd) : Int) ≠ (0 : Int) ∧
 (↑(x_1.fst.gcd x_1.snd) : Int) ≠ (0 : Int) ∧
 Exists fun (x_2 : Pl.Rt) =>
 ((IntKind.i64.wrap (x.fst.tdiv (↑(x_1.fst.gcd x_1.snd) : Int)) = x_2.fst ∧ IntKind.i64.wrap (x.snd.tdiv (↑(x_1.fst.gcd x_1.snd) : Int)) = x_2.snd ∧ True) ∧ True) ∧
 True ∧
 condP (!Pl.ratOk x_2)
 (((0 : Int) = (Pl.ratV (Pl.least x.fst x.snd)).fst ∧ (0 : Int) = (Pl.ratV (Pl.least x.fst x.snd)).snd ∧ True) ∧ Bool.false = (Pl.least x.fst x.snd).isSome ∧ True)
 ((IntKind.i64.wrap (x.fst.tdiv (↑(x_1.fst.gcd x_1.snd) : Int)) = (Pl.ratV (Pl.least x.fst x.snd)).fst ∧
 IntKind.i64.wrap (x.snd.tdiv (↑(x_1.fst.gcd x_1.snd) : Int)) = (Pl.ratV (Pl.least x.fst x.snd)).snd ∧ True) ∧
 Bool.true = (Pl.least x.fst x.snd).isSome ∧ True))) = Goal Try.prog [K_l1Gcd, K_sRatOk] ([]) K_l1Least.1 K_l1Least.2 (x) := by kernel_rfl

end Cg

/-
  What is left to show of each function's code, printed by a program: Lit. No condition.
-/
set_option maxRecDepth 100000
set_option linter.unusedVariables false
namespace Cg
open Go Go.Proofs
end Cg

/-
  What is left to show of each function's code, printed by a program: Same. No condition.
-/
set_option maxRecDepth 100000
set_option linter.unusedVariables false
namespace Cg
open Go Go.Proofs
end Cg

/-
  The codes' contracts: atoms, formulas, explanations, cases: sizes, copies, equality. No condition.
-/
set_option linter.unusedVariables false
set_option linter.unusedSimpArgs false
set_option maxRecDepth 100000
set_option maxHeartbeats 1000000
namespace Cg
open Go Go.Proofs Pl
section
variable {α : Type} {f : α → Nat}
theorem SmTrs.mem {l : List (Tree α)} (h : SmTrs f l) {t : Tree α} (ht : t ∈ l) : SmTr f t := by
  have := costTr_mem (f := f) ht
  have h1 : l.length + costTrs f l ≤ 1048576 := h
  show costTr f t ≤ 1048576
  omega
theorem SmTrs.len {l : List (Tree α)} (h : SmTrs f l) : l.length ≤ 1048576 := by
  have h1 : l.length + costTrs f l ≤ 1048576 := h
  omega
theorem SmTr.kids {v : α} {ks : List (Tree α)} (h : SmTr f (.mk v ks)) : SmTrs f ks := by
  have h1 : costTr f (.mk v ks) ≤ 1048576 := h
  rw [costTr_eq] at h1
  simp only [Tree.val, Tree.kids] at h1
  show ks.length + costTrs f ks ≤ 1048576
  omega
theorem SmTr.here {v : α} {ks : List (Tree α)} (h : SmTr f (.mk v ks)) : f v ≤ 1048576 := by
  have h1 : costTr f (.mk v ks) ≤ 1048576 := h
  rw [costTr_eq] at h1
  simp only [Tree.val, Tree.kids] at h1
  omega
end
theorem SmA.parts {x : Atm} (h : SmA x) : SmT (.mk x.2.1.1 x.2.1.2) ∧ SmT (.mk x.2.2.1.1 x.2.2.1.2) ∧ SmTs x.2.2.2.1 ∧ x.2.2.2.2.1.length ≤ 1048576 := by
  have h1 : costA x ≤ 1048576 := h
  unfold costA at h1
  refine ⟨?_, ?_, ?_, by omega⟩
  · show costT _ ≤ _; omega
  · show costT _ ≤ _; omega
  · show _ + _ ≤ _; omega

end Cg

/-
  The codes' contracts: lists of literals: sizes, copies, equality. No condition.
-/
set_option linter.unusedVariables false
set_option linter.unusedSimpArgs false
set_option maxRecDepth 100000
set_option maxHeartbeats 1000000
namespace Cg
open Go Go.Proofs Pl
theorem SmLs.mem {l : List Ltr} (h : SmLs l) {x : Ltr} (hx : x ∈ l) : SmA x.1 := by
  have h1 : l.length + sumN costL l ≤ 1048576 := h
  have h2 := sumN_mem costL hx
  have h3 : costL x = costA x.1 := rfl
  show costA x.1 ≤ 1048576
  omega
theorem SmLs.len {l : List Ltr} (h : SmLs l) : l.length ≤ 1048576 := by
  have h1 : l.length + sumN costL l ≤ 1048576 := h
  omega
end Cg

/-
  What is left to show of each function's code, printed by a program: Atm. No condition.
-/
set_option maxRecDepth 100000
set_option linter.unusedVariables false
namespace Cg
open Go Go.Proofs
end Cg

/-
  What is left to show of each function's code, printed by a program: Mtm. No condition.
-/
set_option maxRecDepth 100000
set_option linter.unusedVariables false
namespace Cg
open Go Go.Proofs
theorem vc_whole (x : Int) : (x = x ∧ (1 : Int) = Int.ofNat ((1 : Nat)) ∧ True) = Goal Try.prog [] ([]) K_whole.1 K_whole.2 (x) := by kernel_rfl

theorem vc_l7Look (x : Pl.Mdl × ByteArray × List Pl.Rt) : ((Exists fun (x_1 : Nat) =>
 (x_1 ≤ List.length x.fst ∧ Pl.look x.fst x.snd.fst x.snd.snd = Pl.look (List.drop x_1 x.fst) x.snd.fst x.snd.snd) ∧
 (x.snd.fst = x.snd.fst ∧ Is (rats x.snd.snd) (rats x.snd.snd) ∧ (0 : Nat) = (0 : Nat) ∧ (0 : Nat) = (0 : Nat) ∧ (0 : Int) = (↑x_1 : Int) ∧ True) ∧
 (Is (mrows x.fst) (mrows x.fst) ∧ True) ∧ ((0 : Int) = (0 : Int) ∧ (0 : Int) = (0 : Int) ∧ True) ∧ True) ∧
 ∀ (x_1 : Nat),
 x_1 ≤ List.length x.fst ∧ Pl.look x.fst x.snd.fst x.snd.snd = Pl.look (List.drop x_1 x.fst) x.snd.fst x.snd.snd →
 condP (Decidable.decide ((↑x_1 : Int) < (↑(List.length x.fst) : Int)))
 (((0 : Int) ≤ (↑x_1 : Int) ∧ (↑x_1 : Int) < (↑(List.length x.fst) : Int)) ∧
 x_1 < List.length x.fst ∧
 condP ((List.getD x.fst x_1 Pl.dR).fst.toList == x.snd.fst.toList)
 (((0 : Int) ≤ (↑x_1 : Int) ∧ (↑x_1 : Int) < (↑(List.length x.fst) : Int)) ∧
 x_1 < List.length x.fst ∧
 Exists fun (x_2 : List Pl.Rt × List Pl.Rt) =>
 (Is (rats (List.getD x.fst x_1 Pl.dR).snd.fst) (rats x_2.fst) ∧ Is (rats x.snd.snd) (rats x_2.snd) ∧ True) ∧
 Sz x_2.fst ∧
 condP (Decidable.decide (x_2.fst = x_2.snd))
 (((0 : Int) ≤ (↑x_1 : Int) ∧ (↑x_1 : Int) < (↑(List.length x.fst) : Int)) ∧
 x_1 < List.length x.fst ∧
 (List.getD x.fst x_1 Pl.dR).snd.snd.fst = (Pl.look x.fst x.snd.fst x.snd.snd).fst ∧
 (List.getD x.fst x_1 Pl.dR).snd.snd.snd = (Pl.look x.fst x.snd.fst x.snd.snd).snd ∧ True)
 (Exists fun (x' : Nat) =>
 (x' ≤ List.length x.fst ∧ Pl.look x.fst x.snd.fst x.snd.snd = Pl.look (List.drop x' x.fst) x.snd.fst x.snd.snd) ∧
 List.length x.fst - x' < List.length x.fst - x_1 ∧
 (x.snd.fst = x.snd.fst ∧
 Is (rats x.snd.snd) (rats x.snd.snd) ∧
 (0 : Nat) = (0 : Nat) ∧ (0 : Nat) = (0 : Nat) ∧ IntKind.i64.wrap ((↑x_1 : Int) + (1 : Int)) = (↑x' : Int) ∧ True) ∧
 (Is (mrows x.fst) (mrows x.fst) ∧ True) ∧ ((0 : Int) = (0 : Int) ∧ (0 : Int) = (0 : Int) ∧ True) ∧ True))
 (Exists fun (x' : Nat) =>
 (x' ≤ List.length x.fst ∧ Pl.look x.fst x.snd.fst x.snd.snd = Pl.look (List.drop x' x.fst) x.snd.fst x.snd.snd) ∧
 List.length x.fst - x' < List.length x.fst - x_1 ∧
 (x.snd.fst = x.snd.fst ∧
 Is (rats x.snd.snd) (rats x.snd.snd) ∧ (0 : Nat) = (0 : Nat) ∧ (0 : Nat) = (0 : Nat) ∧ IntKind.i64.wrap ((↑x_1 : Int) + (1 : Int)) = (↑x' : Int) ∧ True) ∧
 (Is (mrows x.fst) (mrows x.fst) ∧ True) ∧ ((0 : Int) = (0 : Int) ∧ (0 : Int) = (0 : Int) ∧ True) ∧ True))
 ((0 : Int) = (Pl.look x.fst x.snd.fst x.snd.snd).fst ∧ (1 : Int) = (Pl.look x.fst x.snd.fst x.snd.snd).snd ∧ True)) = Goal Try.prog [K_l7Rats] (A_l7Look x.1 x.2.1 x.2.2) K_l7Look.1 K_l7Look.2 (x) := by kernel_rfl

theorem vc_l7Term (n : Nat) (x : Pl.Mdl × Pl.TP) : ((Exists fun (x_1 : Nat) =>
 x_1 ≤ x.snd.snd.length ∧
 ((0 : Nat) = (0 : Nat) ∧
 (0 : Nat) = (0 : Nat) ∧
 (0 : Nat) = (0 : Nat) ∧ ((0 : Nat) = (0 : Nat) ∧ (0 : Nat) = (0 : Nat) ∧ (Pl.valL x.fst (List.take x_1 x.snd.snd)).length = (0 : Nat)) ∧ (0 : Int) = (↑x_1 : Int) ∧ True) ∧
 (Is (mrows x.fst) (mrows x.fst) ∧ True) ∧
 (x.snd.fst = x.snd.fst ∧ Is (terms x.snd.snd) (terms x.snd.snd) ∧ True) ∧
 ((0 : Int) = (0 : Int) ∧ (0 : Int) = (0 : Int) ∧ True) ∧ (Pl.valL x.fst (List.take x_1 x.snd.snd)).length = (0 : Nat) ∧ True) ∧
 ∀ (x_1 : Nat),
 x_1 ≤ x.snd.snd.length →
 condP (Decidable.decide ((↑x_1 : Int) < (↑x.snd.snd.length : Int)))
 (((0 : Int) ≤ (↑x_1 : Int) ∧ (↑x_1 : Int) < (↑x.snd.snd.length : Int)) ∧
 x_1 < x.snd.snd.length ∧
 Exists fun (x_2 : Pl.Mdl × Pl.TP) =>
 ((Is (mrows x.fst) (mrows x_2.fst) ∧ True) ∧
 (Pl.Tree.val (x.snd.snd.getD x_1 Pl.dT) = x_2.snd.fst ∧ Is (kidsT (x.snd.snd.getD x_1 Pl.dT)) (terms x_2.snd.snd) ∧ True) ∧ True) ∧
 ((SmM x_2.fst ∧ SmT (Pl.Tree.mk x_2.snd.fst x_2.snd.snd)) ∧ Pl.manyL x_2.snd.snd < n) ∧
 (0 : Nat) + (Pl.valL x.fst (List.take x_1 x.snd.snd)).length ≤ (Pl.valL x.fst (List.take x_1 x.snd.snd)).length ∧
 ((Pl.valL x.fst (List.take x_1 x.snd.snd)).length + (1 : Nat)) * (16 : Nat) ≤ (70368744177664 : Nat) ∧
 Exists fun (x' : Nat) =>
 x' ≤ x.snd.snd.length ∧
 x.snd.snd.length - x' < x.snd.snd.length - x_1 ∧
 ((0 : Nat) = (0 : Nat) ∧
 (0 : Nat) = (0 : Nat) ∧
 (0 : Nat) = (0 : Nat) ∧
 ((0 : Nat) = (0 : Nat) ∧ (Pl.valL x.fst (List.take x_1 x.snd.snd)).length + (1 : Nat) = (Pl.valL x.fst (List.take x' x.snd.snd)).length) ∧
 IntKind.i64.wrap ((↑x_1 : Int) + (1 : Int)) = (↑x' : Int) ∧ True) ∧
 (Is (mrows x.fst) (mrows x.fst) ∧ True) ∧
 (x.snd.fst = x.snd.fst ∧ Is (terms x.snd.snd) (terms x.snd.snd) ∧ True) ∧
 ((0 : Int) = (0 : Int) ∧ (0 : Int) = (0 : Int) ∧ True) ∧
 IsO
 (AObj.arr ((Pl.valL x.fst (List.take x_1 x.snd.snd)).length + (1 : Nat)) (2 : Nat)
 (joinC (Pl.valL x.fst (List.take x_1 x.snd.snd)).length (cQ (Pl.valL x.fst (List.take x_1 x.snd.snd)))
 (rowsCell [[i64 (Pl.valT x_2.fst (Pl.Tree.mk x_2.snd.fst x_2.snd.snd)).fst, i64 (Pl.valT x_2.fst (Pl.Tree.mk x_2.snd.fst x_2.snd.snd)).snd]])))
 (arQ (Pl.valL x.fst (List.take x' x.snd.snd))) ∧
 True)
 ((0 : Nat) + (Pl.valL x.fst (List.take x_1 x.snd.snd)).length ≤ (Pl.valL x.fst (List.take x_1 x.snd.snd)).length ∧
 Exists fun (x_2 : Pl.Mdl × ByteArray × List Pl.Rt) =>
 ((Is (mrows x.fst) (mrows x_2.fst) ∧ True) ∧ x.snd.fst = x_2.snd.fst ∧ Is (rats (Pl.valL x.fst (List.take x_1 x.snd.snd))) (rats x_2.snd.snd) ∧ True) ∧
 SmM x_2.fst ∧
 (Pl.look x_2.fst x_2.snd.fst x_2.snd.snd).fst = (Pl.valT x.fst (Pl.Tree.mk x.snd.fst x.snd.snd)).fst ∧
 (Pl.look x_2.fst x_2.snd.fst x_2.snd.snd).snd = (Pl.valT x.fst (Pl.Tree.mk x.snd.fst x.snd.snd)).snd ∧ True)) = Goal Try.prog [K_l7Look, (K_l7Term n)] (A_l7Term x.1 x.2.1 x.2.2) (K_l7Term (n + 1)).1 (K_l7Term (n + 1)).2 (x) := by kernel_rfl

theorem vc_BinRow (x : Pl.Mdl × Pl.Rw) : ((Exists fun (x_1 : Nat × Nat) =>
 (x_1.fst ≤ x_1.snd ∧ x_1.snd ≤ List.length x.fst ∧ Pl.bsR x.fst x.snd = Pl.bsF (Pl.rowBelow x.fst x.snd) x_1.fst x_1.snd) ∧
 (Is (mrows x.fst) (mrows x.fst) ∧
 True ∧ (0 : Nat) = (0 : Nat) ∧ (↑(List.length x.fst) : Int) = (↑(List.length x.fst) : Int) ∧ (0 : Int) = (↑x_1.fst : Int) ∧ (↑(List.length x.fst) : Int) = (↑x_1.snd : Int) ∧ True) ∧
 (x.snd.fst = x.snd.fst ∧ Is (rats x.snd.snd.fst) (rats x.snd.snd.fst) ∧ x.snd.snd.snd.fst = x.snd.snd.snd.fst ∧ x.snd.snd.snd.snd = x.snd.snd.snd.snd ∧ True) ∧ True) ∧
 ∀ (x_1 : Nat × Nat),
 x_1.fst ≤ x_1.snd ∧ x_1.snd ≤ List.length x.fst ∧ Pl.bsR x.fst x.snd = Pl.bsF (Pl.rowBelow x.fst x.snd) x_1.fst x_1.snd →
 condP (Decidable.decide ((↑x_1.fst : Int) < (↑x_1.snd : Int)))
 ((0 : Int) ≤ (1 : Int) ∧
 ((0 : Int) ≤ IntKind.i64.wrap ((IntKind.u64.wrap (IntKind.i64.wrap ((↑x_1.fst : Int) + (↑x_1.snd : Int)))).fdiv ((2 : Int) ^ (1 : Nat))) ∧
 IntKind.i64.wrap ((IntKind.u64.wrap (IntKind.i64.wrap ((↑x_1.fst : Int) + (↑x_1.snd : Int)))).fdiv ((2 : Int) ^ (1 : Nat))) < (↑(List.length x.fst) : Int)) ∧
 (IntKind.i64.wrap ((IntKind.u64.wrap (IntKind.i64.wrap ((↑x_1.fst : Int) + (↑x_1.snd : Int)))).fdiv ((2 : Int) ^ (1 : Nat)))).toNat < List.length x.fst ∧
 Exists fun (x_2 : Pl.Rw × Pl.Rw) =>
 (((List.getD x.fst (IntKind.i64.wrap ((IntKind.u64.wrap (IntKind.i64.wrap ((↑x_1.fst : Int) + (↑x_1.snd : Int)))).fdiv ((2 : Int) ^ (1 : Nat)))).toNat Pl.dR).fst =
 x_2.fst.fst ∧
 Is
 (rats
 (List.getD x.fst (IntKind.i64.wrap ((IntKind.u64.wrap (IntKind.i64.wrap ((↑x_1.fst : Int) + (↑x_1.snd : Int)))).fdiv ((2 : Int) ^ (1 : Nat)))).toNat
 Pl.dR).snd.fst)
 (rats x_2.fst.snd.fst) ∧
 (List.getD x.fst (IntKind.i64.wrap ((IntKind.u64.wrap (IntKind.i64.wrap ((↑x_1.fst : Int) + (↑x_1.snd : Int)))).fdiv ((2 : Int) ^ (1 : Nat)))).toNat
 Pl.dR).snd.snd.fst =
 x_2.fst.snd.snd.fst ∧
 (List.getD x.fst (IntKind.i64.wrap ((IntKind.u64.wrap (IntKind.i64.wrap ((↑x_1.fst : Int) + (↑x_1.snd : Int)))).fdiv ((2 : Int) ^ (1 : Nat)))).toNat
 Pl.dR).snd.snd.snd =
 x_2.fst.snd.snd.snd ∧
 True) ∧
 (x.snd.fst = x_2.snd.fst ∧ Is (rats x.snd.snd.fst) (rats x_2.snd.snd.fst) ∧ x.snd.snd.snd.fst = x_2.snd.snd.snd.fst ∧ x.snd.snd.snd.snd = x_2.snd.snd.snd.snd ∧ True) ∧
 True) ∧
 (Sz x_2.fst.snd.fst ∧ Sz x_2.snd.snd.fst) ∧
 condP (Decidable.decide (Pl.cmpRows x_2.fst x_2.snd < (0 : Int)))
 (Exists fun (x' : Nat × Nat) =>
 (x'.fst ≤ x'.snd ∧ x'.snd ≤ List.length x.fst ∧ Pl.bsR x.fst x.snd = Pl.bsF (Pl.rowBelow x.fst x.snd) x'.fst x'.snd) ∧
 x'.snd - x'.fst < x_1.snd - x_1.fst ∧
 (Is (mrows x.fst) (mrows x.fst) ∧
 True ∧
 (0 : Nat) = (0 : Nat) ∧
 (↑(List.length x.fst) : Int) = (↑(List.length x.fst) : Int) ∧
 IntKind.i64.wrap
 (IntKind.i64.wrap ((IntKind.u64.wrap (IntKind.i64.wrap ((↑x_1.fst : Int) + (↑x_1.snd : Int)))).fdiv ((2 : Int) ^ (1 : Nat))) + (1 : Int)) =
 (↑x'.fst : Int) ∧
 (↑x_1.snd : Int) = (↑x'.snd : Int) ∧ True) ∧
 (x.snd.fst = x.snd.fst ∧ Is (rats x.snd.snd.fst) (rats x.snd.snd.fst) ∧ x.snd.snd.snd.fst = x.snd.snd.snd.fst ∧ x.snd.snd.snd.snd = x.snd.snd.snd.snd ∧ True) ∧
 True)
 (Exists fun (x' : Nat × Nat) =>
 (x'.fst ≤ x'.snd ∧ x'.snd ≤ List.length x.fst ∧ Pl.bsR x.fst x.snd = Pl.bsF (Pl.rowBelow x.fst x.snd) x'.fst x'.snd) ∧
 x'.snd - x'.fst < x_1.snd - x_1.fst ∧
 (Is (mrows x.fst) (mrows x.fst) ∧
 True ∧
 (0 : Nat) = (0 : Nat) ∧
 (↑(List.length x.fst) : Int) = (↑(List.length x.fst) : Int) ∧
 (↑x_1.fst : Int) = (↑x'.fst : Int) ∧
 IntKind.i64.wrap ((IntKind.u64.wrap (IntKind.i64.wrap ((↑x_1.fst : Int) + (↑x_1.snd : Int)))).fdiv ((2 : Int) ^ (1 : Nat))) = (↑x'.snd : Int) ∧ True) ∧
 (x.snd.fst = x.snd.fst ∧ Is (rats x.snd.snd.fst) (rats x.snd.snd.fst) ∧ x.snd.snd.snd.fst = x.snd.snd.snd.fst ∧ x.snd.snd.snd.snd = x.snd.snd.snd.snd ∧ True) ∧
 True))
 (condP (Decidable.decide ((↑x_1.fst : Int) < (↑(List.length x.fst) : Int)))
 (((0 : Int) ≤ (↑x_1.fst : Int) ∧ (↑x_1.fst : Int) < (↑(List.length x.fst) : Int)) ∧
 x_1.fst < List.length x.fst ∧
 Exists fun (x_2 : Pl.Rw × Pl.Rw) =>
 (((List.getD x.fst x_1.fst Pl.dR).fst = x_2.fst.fst ∧
 Is (rats (List.getD x.fst x_1.fst Pl.dR).snd.fst) (rats x_2.fst.snd.fst) ∧
 (List.getD x.fst x_1.fst Pl.dR).snd.snd.fst = x_2.fst.snd.snd.fst ∧ (List.getD x.fst x_1.fst Pl.dR).snd.snd.snd = x_2.fst.snd.snd.snd ∧ True) ∧
 (x.snd.fst = x_2.snd.fst ∧ Is (rats x.snd.snd.fst) (rats x_2.snd.snd.fst) ∧ x.snd.snd.snd.fst = x_2.snd.snd.snd.fst ∧ x.snd.snd.snd.snd = x_2.snd.snd.snd.snd ∧ True) ∧
 True) ∧
 (Sz x_2.fst.snd.fst ∧ Sz x_2.snd.snd.fst) ∧ (↑x_1.fst : Int) = (↑(Pl.bsR x.fst x.snd) : Int) ∧ (Pl.cmpRows x_2.fst x_2.snd == (0 : Int)) = Pl.bsHit x.fst x.snd ∧ True)
 ((↑x_1.fst : Int) = (↑(Pl.bsR x.fst x.snd) : Int) ∧ Bool.false = Pl.bsHit x.fst x.snd ∧ True))) = Goal Try.prog [K_compareRows] (A_BinRow x.1 x.2) K_BinRow.1 K_BinRow.2 (x) := by kernel_rfl

theorem vc_value (n : Nat) (x : Pl.Mdl × Pl.TP) : ((Exists fun (x_1 : Nat) =>
 x_1 ≤ x.snd.snd.length ∧
 ((0 : Nat) = (0 : Nat) ∧
 (0 : Nat) = (0 : Nat) ∧
 (0 : Nat) = (0 : Nat) ∧ (0 : Nat) = (0 : Nat) ∧ Is (terms x.snd.snd) (terms x.snd.snd) ∧ (↑x.snd.snd.length : Int) = (↑x.snd.snd.length : Int) ∧ (0 : Int) = (↑x_1 : Int) ∧ True) ∧
 (Is (mrows x.fst) (mrows x.fst) ∧ True) ∧
 (x.snd.fst = x.snd.fst ∧ Is (terms x.snd.snd) (terms x.snd.snd) ∧ True) ∧
 ((0 : Int) = (0 : Int) ∧ (0 : Int) = (0 : Int) ∧ True) ∧
 (x.snd.fst = x.snd.fst ∧
 ((0 : Nat) = (0 : Nat) ∧ (0 : Nat) = (0 : Nat) ∧ (Pl.valL x.fst (List.take x_1 x.snd.snd)).length = (0 : Nat)) ∧ (0 : Int) = (0 : Int) ∧ (0 : Int) = (0 : Int) ∧ True) ∧
 (Pl.valL x.fst (List.take x_1 x.snd.snd)).length = (0 : Nat) ∧ True) ∧
 ∀ (x_1 : Nat),
 x_1 ≤ x.snd.snd.length →
 condP (Decidable.decide ((↑x_1 : Int) < (↑x.snd.snd.length : Int)))
 (((0 : Int) ≤ (↑x_1 : Int) ∧ (↑x_1 : Int) < (↑x.snd.snd.length : Int)) ∧
 x_1 < x.snd.snd.length ∧
 Exists fun (x_2 : Pl.Mdl × Pl.TP) =>
 ((Is (mrows x.fst) (mrows x_2.fst) ∧ True) ∧
 (Pl.Tree.val (x.snd.snd.getD x_1 Pl.dT) = x_2.snd.fst ∧ Is (kidsT (x.snd.snd.getD x_1 Pl.dT)) (terms x_2.snd.snd) ∧ True) ∧ True) ∧
 ((Pl.mL Option.none x_2.fst = Bool.true ∧ SmM x_2.fst ∧ SmT (Pl.Tree.mk x_2.snd.fst x_2.snd.snd)) ∧ Pl.manyL x_2.snd.snd < n) ∧
 (0 : Nat) + (Pl.valL x.fst (List.take x_1 x.snd.snd)).length ≤ (Pl.valL x.fst (List.take x_1 x.snd.snd)).length ∧
 ((Pl.valL x.fst (List.take x_1 x.snd.snd)).length + (1 : Nat)) * (16 : Nat) ≤ (70368744177664 : Nat) ∧
 Exists fun (x' : Nat) =>
 x' ≤ x.snd.snd.length ∧
 x.snd.snd.length - x' < x.snd.snd.length - x_1 ∧
 ((0 : Nat) = (0 : Nat) ∧
 (0 : Nat) = (0 : Nat) ∧
 (0 : Nat) = (0 : Nat) ∧
 (0 : Nat) = (0 : Nat) ∧
 Is (terms x.snd.snd) (terms x.snd.snd) ∧
 (↑x.snd.snd.length : Int) = (↑x.snd.snd.length : Int) ∧ IntKind.i64.wrap ((↑x_1 : Int) + (1 : Int)) = (↑x' : Int) ∧ True) ∧
 (Is (mrows x.fst) (mrows x.fst) ∧ True) ∧
 (x.snd.fst = x.snd.fst ∧ Is (terms x.snd.snd) (terms x.snd.snd) ∧ True) ∧
 ((0 : Int) = (0 : Int) ∧ (0 : Int) = (0 : Int) ∧ True) ∧
 (x.snd.fst = x.snd.fst ∧
 ((0 : Nat) = (0 : Nat) ∧ (Pl.valL x.fst (List.take x_1 x.snd.snd)).length + (1 : Nat) = (Pl.valL x.fst (List.take x' x.snd.snd)).length) ∧
 (0 : Int) = (0 : Int) ∧ (0 : Int) = (0 : Int) ∧ True) ∧
 IsO
 (AObj.arr ((Pl.valL x.fst (List.take x_1 x.snd.snd)).length + (1 : Nat)) (2 : Nat)
 (joinC (Pl.valL x.fst (List.take x_1 x.snd.snd)).length (cQ (Pl.valL x.fst (List.take x_1 x.snd.snd)))
 (rowsCell [[i64 (Pl.valT x_2.fst (Pl.Tree.mk x_2.snd.fst x_2.snd.snd)).fst, i64 (Pl.valT x_2.fst (Pl.Tree.mk x_2.snd.fst x_2.snd.snd)).snd]])))
 (arQ (Pl.valL x.fst (List.take x' x.snd.snd))) ∧
 True)
 ((0 : Nat) + (Pl.valL x.fst (List.take x_1 x.snd.snd)).length ≤ (Pl.valL x.fst (List.take x_1 x.snd.snd)).length ∧
 Exists fun (x_2 : Pl.Mdl × Pl.Rw) =>
 (Is (mrows x.fst) (mrows x_2.fst) ∧
 (x.snd.fst = x_2.snd.fst ∧
 Is (rats (Pl.valL x.fst (List.take x_1 x.snd.snd))) (rats x_2.snd.snd.fst) ∧ (0 : Int) = x_2.snd.snd.snd.fst ∧ (0 : Int) = x_2.snd.snd.snd.snd ∧ True) ∧
 True ∧ True) ∧
 (SmM x_2.fst ∧ Sz x_2.snd.snd.fst) ∧
 condP (!Pl.bsHit x_2.fst x_2.snd)
 (Exists fun (x_3 : Int) =>
 ((0 : Int) = x_3 ∧ True) ∧ True ∧ x_3 = (Pl.valT x.fst (Pl.Tree.mk x.snd.fst x.snd.snd)).fst ∧ Int.ofNat ((1 : Nat)) = (Pl.valT x.fst (Pl.Tree.mk x.snd.fst x.snd.snd)).snd ∧ True)
 (((0 : Int) ≤ (↑(Pl.bsR x_2.fst x_2.snd) : Int) ∧ (↑(Pl.bsR x_2.fst x_2.snd) : Int) < (↑(List.length x.fst) : Int)) ∧
 Pl.bsR x_2.fst x_2.snd < List.length x.fst ∧
 (List.getD x.fst (Pl.bsR x_2.fst x_2.snd) Pl.dR).snd.snd.fst = (Pl.valT x.fst (Pl.Tree.mk x.snd.fst x.snd.snd)).fst ∧
 (List.getD x.fst (Pl.bsR x_2.fst x_2.snd) Pl.dR).snd.snd.snd = (Pl.valT x.fst (Pl.Tree.mk x.snd.fst x.snd.snd)).snd ∧ True))) = Goal Try.prog [K_whole, K_BinRow, (K_value n)] (A_value x.1 x.2.1 x.2.2) (K_value (n + 1)).1 (K_value (n + 1)).2 (x) := by kernel_rfl

theorem vc_sModelTerm (x : Pl.Sig × Pl.Mdl × Pl.TP) : (Exists fun (x_1 : Pl.Sig × Pl.TP) =>
 ((Is (syms x.fst) (syms x_1.fst) ∧ True) ∧ (x.snd.snd.fst = x_1.snd.fst ∧ Is (terms x.snd.snd.snd) (terms x_1.snd.snd) ∧ True) ∧ True) ∧
 (SmG x_1.fst ∧ SmT (Pl.Tree.mk x_1.snd.fst x_1.snd.snd)) ∧
 condP (!(Pl.termSort x_1.fst (Pl.Tree.mk x_1.snd.fst x_1.snd.snd)).snd)
 (((0 : Int) = (Pl.modelTerm x.fst x.snd.fst (Pl.Tree.mk x.snd.snd.fst x.snd.snd.snd)).fst.fst ∧
 (0 : Int) = (Pl.modelTerm x.fst x.snd.fst (Pl.Tree.mk x.snd.snd.fst x.snd.snd.snd)).fst.snd ∧ True) ∧
 Bool.false = (Pl.modelTerm x.fst x.snd.fst (Pl.Tree.mk x.snd.snd.fst x.snd.snd.snd)).snd ∧ True)
 (Exists fun (x_2 : Pl.Sig × Pl.Mdl) =>
 ((Is (syms x.fst) (syms x_2.fst) ∧ True) ∧ (Is (mrows x.snd.fst) (mrows x_2.snd) ∧ True) ∧ True) ∧
 (SmG x_2.fst ∧ SmM x_2.snd) ∧
 condP (!Pl.modelOk x_2.fst x_2.snd)
 (((0 : Int) = (Pl.modelTerm x.fst x.snd.fst (Pl.Tree.mk x.snd.snd.fst x.snd.snd.snd)).fst.fst ∧
 (0 : Int) = (Pl.modelTerm x.fst x.snd.fst (Pl.Tree.mk x.snd.snd.fst x.snd.snd.snd)).fst.snd ∧ True) ∧
 Bool.false = (Pl.modelTerm x.fst x.snd.fst (Pl.Tree.mk x.snd.snd.fst x.snd.snd.snd)).snd ∧ True)
 (Exists fun (x_3 : Pl.Mdl × Pl.TP) =>
 ((Is (mrows x.snd.fst) (mrows x_3.fst) ∧ True) ∧ (x.snd.snd.fst = x_3.snd.fst ∧ Is (terms x.snd.snd.snd) (terms x_3.snd.snd) ∧ True) ∧ True) ∧
 (SmM x_3.fst ∧ SmT (Pl.Tree.mk x_3.snd.fst x_3.snd.snd)) ∧
 ((Pl.valT x_3.fst (Pl.Tree.mk x_3.snd.fst x_3.snd.snd)).fst = (Pl.modelTerm x.fst x.snd.fst (Pl.Tree.mk x.snd.snd.fst x.snd.snd.snd)).fst.fst ∧
 (Pl.valT x_3.fst (Pl.Tree.mk x_3.snd.fst x_3.snd.snd)).snd = (Pl.modelTerm x.fst x.snd.fst (Pl.Tree.mk x.snd.snd.fst x.snd.snd.snd)).fst.snd ∧ True) ∧
 Bool.true = (Pl.modelTerm x.fst x.snd.fst (Pl.Tree.mk x.snd.snd.fst x.snd.snd.snd)).snd ∧ True))) = Goal Try.prog [K_sTermSort, K_sModelOk, K_lTm] ([]) K_sModelTerm.1 K_sModelTerm.2 (x) := by kernel_rfl

theorem vc_iModelTerm (x : Pl.Sig × Pl.Mdl × Pl.TP) : (Exists fun (x_1 : Pl.Sig × Pl.TP) =>
 ((Is (syms x.fst) (syms x_1.fst) ∧ True) ∧ (x.snd.snd.fst = x_1.snd.fst ∧ Is (terms x.snd.snd.snd) (terms x_1.snd.snd) ∧ True) ∧ True) ∧
 (SmG x_1.fst ∧ SmT (Pl.Tree.mk x_1.snd.fst x_1.snd.snd)) ∧
 condP (!(Pl.termSort x_1.fst (Pl.Tree.mk x_1.snd.fst x_1.snd.snd)).snd)
 (((0 : Int) = (Pl.modelTerm x.fst x.snd.fst (Pl.Tree.mk x.snd.snd.fst x.snd.snd.snd)).fst.fst ∧
 (0 : Int) = (Pl.modelTerm x.fst x.snd.fst (Pl.Tree.mk x.snd.snd.fst x.snd.snd.snd)).fst.snd ∧ True) ∧
 Bool.false = (Pl.modelTerm x.fst x.snd.fst (Pl.Tree.mk x.snd.snd.fst x.snd.snd.snd)).snd ∧ True)
 (Exists fun (x_2 : Pl.Sig × Pl.Mdl) =>
 ((Is (syms x.fst) (syms x_2.fst) ∧ True) ∧ (Is (mrows x.snd.fst) (mrows x_2.snd) ∧ True) ∧ True) ∧
 (SmG x_2.fst ∧ SmM x_2.snd) ∧
 condP (!Pl.modelOk x_2.fst x_2.snd)
 (((0 : Int) = (Pl.modelTerm x.fst x.snd.fst (Pl.Tree.mk x.snd.snd.fst x.snd.snd.snd)).fst.fst ∧
 (0 : Int) = (Pl.modelTerm x.fst x.snd.fst (Pl.Tree.mk x.snd.snd.fst x.snd.snd.snd)).fst.snd ∧ True) ∧
 Bool.false = (Pl.modelTerm x.fst x.snd.fst (Pl.Tree.mk x.snd.snd.fst x.snd.snd.snd)).snd ∧ True)
 (Exists fun (x_3 : Pl.Mdl × Pl.TP) =>
 ((Is (mrows x.snd.fst) (mrows x_3.fst) ∧ True) ∧ (x.snd.snd.fst = x_3.snd.fst ∧ Is (terms x.snd.snd.snd) (terms x_3.snd.snd) ∧ True) ∧ True) ∧
 (Pl.mL Option.none x_3.fst = Bool.true ∧ SmM x_3.fst ∧ SmT (Pl.Tree.mk x_3.snd.fst x_3.snd.snd)) ∧
 ((Pl.valT x_3.fst (Pl.Tree.mk x_3.snd.fst x_3.snd.snd)).fst = (Pl.modelTerm x.fst x.snd.fst (Pl.Tree.mk x.snd.snd.fst x.snd.snd.snd)).fst.fst ∧
 (Pl.valT x_3.fst (Pl.Tree.mk x_3.snd.fst x_3.snd.snd)).snd = (Pl.modelTerm x.fst x.snd.fst (Pl.Tree.mk x.snd.snd.fst x.snd.snd.snd)).fst.snd ∧ True) ∧
 Bool.true = (Pl.modelTerm x.fst x.snd.fst (Pl.Tree.mk x.snd.snd.fst x.snd.snd.snd)).snd ∧ True))) = Goal Try.prog [K_iTermSort, K_iModelOk, K_val] ([]) K_iModelTerm.1 K_iModelTerm.2 (x) := by kernel_rfl

end Cg

/-
  The codes' contracts: the values of terms. No condition.
-/
set_option linter.unusedVariables false
set_option linter.unusedSimpArgs false
set_option maxRecDepth 100000
set_option maxHeartbeats 1000000
namespace Pl
open Go Cg
theorem take_getD {α : Type} (d : α) {l : List α} {i : Nat} (h : i < l.length) : l.take (i + 1) = l.take i ++ [l.getD i d] := by
  rw [List.take_succ_eq_append_getElem h]; simp [h]
theorem bl_trans : ∀ {x y z : List UInt8}, Op.bytesLess x y = true → Op.bytesLess y z = true → Op.bytesLess x z = true
  | [], [], _, h, _ => by cases h
  | [], _ :: _, [], _, h => by cases h
  | [], _ :: _, _ :: _, _, _ => rfl
  | _ :: _, [], _, h, _ => by cases h
  | _ :: _, _ :: _, [], _, h => by cases h
  | a :: x, b :: y, c :: z, h, k => by
    simp only [Op.bytesLess, Bool.or_eq_true, decide_eq_true_eq, Bool.and_eq_true, beq_iff_eq, UInt8.lt_iff_toNat_lt] at h k ⊢
    rcases h with h | ⟨h, h1⟩ <;> rcases k with k | ⟨k, k1⟩
    · exact .inl (by omega)
    · subst k; exact .inl h
    · subst h; exact .inl k
    · subst h; subst k; exact .inr ⟨rfl, bl_trans h1 k1⟩
theorem valL_map (m : Mdl) : ∀ l : List Tm, valL m l = l.map (valT m)
  | [] => rfl
  | t :: ts => by simp only [valL, List.map_cons, valL_map m ts]
theorem valL_len (m : Mdl) (l : List Tm) : (valL m l).length = l.length := by rw [valL_map]; simp
theorem valL_step (m : Mdl) {l : List Tm} {k : Nat} (h : k < l.length) : valL m (l.take (k + 1)) = valL m (l.take k) ++ [valT m (l.getD k dT)] := by
  rw [valL_map, valL_map, take_getD dT h]; simp
theorem valT_mk (m : Mdl) (v : ByteArray) (ks : List Tm) : valT m (.mk v ks) = look m v (valL m ks) := by rw [valT]
theorem look_cons (r : Rw) (m : Mdl) (nm : ByteArray) (args : List Rt) : look (r :: m) nm args = if r.1 = nm ∧ r.2.1 = args then r.2.2 else look m nm args := by
  unfold look
  rw [List.find?_cons]
  by_cases h : r.1 = nm ∧ r.2.1 = args
  · rw [if_pos h, decide_eq_true h.1, decide_eq_true h.2]; rfl
  · rw [if_neg h]
    have : (decide (r.1 = nm) && decide (r.2.1 = args)) = false := by
      rw [← Bool.decide_and]; exact decide_eq_false h
    rw [this]
theorem ratOk_one : ratOk (0, 1) = true := by decide
theorem look_ok {m : Mdl} (h : mL none m = true) (nm : ByteArray) (args : List Rt) : ratOk (look m nm args) = true := by
  unfold look
  cases e : m.find? fun r => decide (r.1 = nm) && decide (r.2.1 = args) with
  | none => exact ratOk_one
  | some r => exact (rowOk_iff.1 (mL_mem h r (List.mem_of_find?_eq_some e))).2.2.1
theorem valT_ok {m : Mdl} (h : mL none m = true) (t : Tm) : ratOk (valT m t) = true := by
  cases t with
  | mk v ks => rw [valT_mk]; exact look_ok h _ _
theorem valL_ok {m : Mdl} (h : mL none m = true) (l : List Tm) : (valL m l).all ratOk = true := by
  rw [valL_map, List.all_map, List.all_eq_true]
  exact fun t _ => valT_ok h t

/-! ### Rows in order -/
theorem ratLess_iff {x y : Rt} (hx : ratOk x = true) (hy : ratOk y = true) : ratLess x y = true ↔ x.1 * y.2 < y.1 * x.2 := by
  unfold ratLess; rw [hx, hy]; simp
theorem ratLess_trans {x y z : Rt} (hx : ratOk x = true) (hy : ratOk y = true) (hz : ratOk z = true) (h1 : ratLess x y = true) (h2 : ratLess y z = true) : ratLess x z = true := by
  rw [ratLess_iff hx hy] at h1
  rw [ratLess_iff hy hz] at h2
  rw [ratLess_iff hx hz]
  have p1 := (ratOk_iff.1 hx).2.2.1
  have p2 := (ratOk_iff.1 hy).2.2.1
  have p3 := (ratOk_iff.1 hz).2.2.1
  have e1 : x.1 * y.2 * z.2 < y.1 * x.2 * z.2 := Int.mul_lt_mul_of_pos_right h1 (by omega)
  have e2 : y.1 * z.2 * x.2 < z.1 * y.2 * x.2 := Int.mul_lt_mul_of_pos_right h2 (by omega)
  have e3 : (x.1 * z.2) * y.2 < (z.1 * x.2) * y.2 := by
    have a1 : x.1 * z.2 * y.2 = x.1 * y.2 * z.2 := by rw [Int.mul_assoc, Int.mul_comm z.2, ← Int.mul_assoc]
    have a2 : z.1 * x.2 * y.2 = z.1 * y.2 * x.2 := by rw [Int.mul_assoc, Int.mul_comm x.2, ← Int.mul_assoc]
    have a3 : y.1 * x.2 * z.2 = y.1 * z.2 * x.2 := by rw [Int.mul_assoc, Int.mul_comm x.2, ← Int.mul_assoc]
    rw [a1, a2]; rw [a3] at e1; omega
  exact Int.lt_of_mul_lt_mul_right e3 (by omega)
theorem argsLess_trans : ∀ {a b c : List Rt}, a.length = b.length → b.length = c.length → a.all ratOk = true → b.all ratOk = true → c.all ratOk = true → argsLess a b = true → argsLess b c = true → argsLess a c = true
  | [], _, _, _, _, _, _, _, h, _ => by cases h
  | _ :: _, [], _, h, _, _, _, _, _, _ => by simp at h
  | _ :: _, _ :: _, [], _, h, _, _, _, _, _ => by simp at h
  | x :: a, y :: b, z :: c, h1, h2, ha, hb, hc, l1, l2 => by
    simp only [List.all_cons, Bool.and_eq_true] at ha hb hc
    simp only [argsLess] at l1 l2 ⊢
    by_cases e1 : x = y
    · subst e1
      rw [if_pos rfl] at l1
      by_cases e2 : x = z
      · subst e2
        rw [if_pos rfl] at l2 ⊢
        exact argsLess_trans (by simpa using h1) (by simpa using h2) ha.2 hb.2 hc.2 l1 l2
      · rw [if_neg e2] at l2 ⊢; exact l2
    · rw [if_neg e1] at l1
      by_cases e2 : y = z
      · subst e2
        rw [if_neg e1]; exact l1
      · rw [if_neg e2] at l2
        have l3 := ratLess_trans ha.1 hb.1 hc.1 l1 l2
        by_cases e3 : x = z
        · subst e3
          rw [ratLess_iff ha.1 ha.1] at l3; omega
        · rw [if_neg e3]; exact l3
theorem sLess_trans {a b c : ByteArray} (h1 : sLess a b = true) (h2 : sLess b c = true) : sLess a c = true := bl_trans h1 h2
theorem sLess_irrefl (a : ByteArray) : sLess a a = false := bl_irrefl _
theorem rowLess_trans {x y z : Rw} (hx : x.2.1.all ratOk = true) (hy : y.2.1.all ratOk = true) (hz : z.2.1.all ratOk = true) (h1 : rowLess x y = true) (h2 : rowLess y z = true) : rowLess x z = true := by
  unfold rowLess at h1 h2 ⊢
  by_cases e1 : x.1 = y.1
  · rw [if_pos e1] at h1
    rw [e1]
    by_cases e2 : y.1 = z.1
    · rw [if_pos e2] at h2 ⊢
      by_cases l1 : x.2.1.length = y.2.1.length
      · rw [if_pos l1] at h1
        rw [l1]
        by_cases l2 : y.2.1.length = z.2.1.length
        · rw [if_pos l2] at h2 ⊢; exact argsLess_trans l1 l2 hx hy hz h1 h2
        · rw [if_neg l2] at h2 ⊢; exact h2
      · rw [if_neg l1] at h1
        simp only [decide_eq_true_eq] at h1
        by_cases l2 : y.2.1.length = z.2.1.length
        · rw [← l2, if_neg l1]; simpa using h1
        · rw [if_neg l2] at h2
          simp only [decide_eq_true_eq] at h2
          rw [if_neg (by omega)]; simp only [decide_eq_true_eq]; omega
    · rw [if_neg e2] at h2 ⊢; exact h2
  · rw [if_neg e1] at h1
    by_cases e2 : y.1 = z.1
    · rw [← e2, if_neg e1]; exact h1
    · rw [if_neg e2] at h2
      have h3 := sLess_trans h1 h2
      rw [if_neg]
      · exact h3
      · intro e; rw [e, sLess_irrefl] at h3; cases h3
theorem argsLess_irrefl : ∀ l : List Rt, argsLess l l = false
  | [] => rfl
  | a :: l => by simp only [argsLess, if_true]; exact argsLess_irrefl l
theorem rowLess_irrefl {x : Rw} (hx : x.2.1.all ratOk = true) : rowLess x x = false := by
  unfold rowLess
  rw [if_pos rfl, if_pos rfl]
  exact argsLess_irrefl _
theorem cmpArgs_zero : ∀ {a b : List Rt}, a.all ratOk = true → b.all ratOk = true → (cmpArgs a b = 0 ↔ a = b)
  | [], [], _, _ => by simp [cmpArgs]
  | [], _ :: _, _, _ => by simp [cmpArgs]
  | _ :: _, [], _, _ => by simp [cmpArgs]
  | x :: a, y :: b, ha, hb => by
    simp only [List.all_cons, Bool.and_eq_true] at ha hb
    have h1 := cmpRat_zero ha.1 hb.1
    simp only [cmpArgs]
    by_cases e : x = y
    · subst e
      rw [if_pos (h1.2 rfl), cmpArgs_zero ha.2 hb.2]; simp
    · rw [if_neg (fun h => e (h1.1 h))]
      exact ⟨fun h => absurd (h1.1 h) e, fun h => by simp at h; exact absurd h.1 e⟩
theorem cmpRows_zero {x y : Rw} (hx : x.2.1.all ratOk = true) (hy : y.2.1.all ratOk = true) : cmpRows x y = 0 ↔ x.1 = y.1 ∧ x.2.1 = y.2.1 := by
  unfold cmpRows
  simp only [orI, cmpS_zero, cmpI_zero]
  have h3 := cmpArgs_zero hx hy
  by_cases h1 : x.1 = y.1
  · rw [if_pos h1]
    by_cases h2 : (x.2.1.length : Int) = y.2.1.length
    · rw [if_pos h2]
      split
      · rename_i h4; exact ⟨fun _ => ⟨h1, h3.1 h4⟩, fun _ => rfl⟩
      · rename_i h4; exact ⟨fun h => absurd h h4, fun h => absurd (h3.2 h.2) h4⟩
    · rw [if_neg h2, cmpI_zero]
      exact ⟨fun h => absurd h h2, fun h => absurd (by rw [h.2]) h2⟩
  · rw [if_neg h1, cmpS_zero]
    exact ⟨fun h => absurd h h1, fun h => absurd h.1 h1⟩
/-- Rows in order: each is below those behind it. -/
theorem mL_sorted : ∀ {m : Mdl} {p : Option Rw}, mL p m = true → (∀ q, p = some q → q.2.1.all ratOk = true → ∀ y ∈ m, rowLess q y = true) ∧ ∀ i j, i < j → j < m.length → rowLess (m.getD i dR) (m.getD j dR) = true
  | [], _, _ => ⟨fun _ _ _ y hy => (by cases hy), fun i j _ h => absurd h (Nat.not_lt_zero _)⟩
  | x :: m, p, h => by
    have hall := mL_mem h
    simp only [mL, Bool.and_eq_true] at h
    obtain ⟨⟨h1, h2⟩, h3⟩ := h
    have hx := (rowOk_iff.1 h1).2.2.2
    obtain ⟨i1, i2⟩ := mL_sorted h3
    have i1 := i1 x rfl hx
    refine ⟨fun q hq hqo y hy => ?_, fun i j hij hj => ?_⟩
    · subst hq
      rcases List.mem_cons.1 hy with e | e
      · subst e; exact h2
      · exact rowLess_trans hqo hx (rowOk_iff.1 (hall y (List.mem_cons_of_mem _ e))).2.2.2 h2 (i1 y e)
    · cases j with
      | zero => omega
      | succ j =>
        cases i with
        | zero => exact i1 _ (getD_mem dR (by simpa using hj))
        | succ i => exact i2 i j (by omega) (by simpa using hj)
theorem cmpRows_less {x y : Rw} (ha : x.2.1.all ratOk = true) (hb : y.2.1.all ratOk = true) : cmpRows x y < 0 ↔ rowLess x y = true := by
  unfold cmpRows rowLess
  simp only [orI, cmpS_zero, cmpI_zero]
  by_cases h1 : x.1 = y.1
  · rw [if_pos h1, if_pos h1]
    by_cases h2 : x.2.1.length = y.2.1.length
    · rw [if_pos (by omega), if_pos h2]
      have := cmpArgs_neg h2 ha hb
      split
      · rename_i h3; rw [← this, h3]
      · exact this
    · rw [if_neg (by omega), if_neg h2, cmpI_neg]
      simp only [decide_eq_true_eq]; omega
  · rw [if_neg h1, if_neg h1]; exact cmpS_neg
theorem rowLess_key {x y z : Rw} (h1 : y.1 = z.1) (h2 : y.2.1 = z.2.1) : rowLess x y = rowLess x z := by
  unfold rowLess; rw [h1, h2]

/-! ### The search -/
theorem bsF_spec {c : Nat → Bool} {n : Nat} (mono : ∀ a b, a ≤ b → b < n → c b = true → c a = true) : ∀ (d i j : Nat), j - i ≤ d → i ≤ j → j ≤ n →
    i ≤ bsF c i j ∧ bsF c i j ≤ j ∧ (∀ t, i ≤ t → t < bsF c i j → c t = true) ∧ (∀ t, bsF c i j ≤ t → t < j → c t = false)
  | 0, i, j, hd, hij, hj => by
    have e : i = j := by omega
    subst e
    rw [bsF, if_neg (Nat.lt_irrefl _)]
    exact ⟨Nat.le_refl _, Nat.le_refl _, fun t _ _ => by omega, fun t _ _ => by omega⟩
  | d + 1, i, j, hd, hij, hj => by
    by_cases h : i < j
    · rw [bsF, if_pos h]
      by_cases hc : c ((i + j) / 2) = true
      · rw [if_pos hc]
        obtain ⟨h1, h2, h3, h4⟩ := bsF_spec mono d ((i + j) / 2 + 1) j (by omega) (by omega) hj
        refine ⟨by omega, h2, fun t ht1 ht2 => ?_, h4⟩
        by_cases ht : t ≤ (i + j) / 2
        · exact mono t _ ht (by omega) hc
        · exact h3 t (by omega) ht2
      · rw [if_neg hc]
        obtain ⟨h1, h2, h3, h4⟩ := bsF_spec mono d i ((i + j) / 2) (by omega) (by omega) (by omega)
        refine ⟨h1, by omega, h3, fun t ht1 ht2 => ?_⟩
        by_cases ht : t < (i + j) / 2
        · exact h4 t ht1 ht
        · cases hct : c t with
          | false => rfl
          | true => exact absurd (mono _ t (by omega) (by omega) hct) hc
    · have e : i = j := by omega
      subst e
      rw [bsF, if_neg (Nat.lt_irrefl _)]
      exact ⟨Nat.le_refl _, Nat.le_refl _, fun t _ _ => by omega, fun t _ _ => by omega⟩
theorem look_hit {nm : ByteArray} {args : List Rt} : ∀ {m : Mdl} {k : Nat}, k < m.length → (m.getD k dR).1 = nm → (m.getD k dR).2.1 = args → (∀ t, t < k → ¬ ((m.getD t dR).1 = nm ∧ (m.getD t dR).2.1 = args)) → look m nm args = (m.getD k dR).2.2
  | [], k, h, _, _, _ => by simp at h
  | x :: m, 0, _, h1, h2, _ => by
    simp only [List.getD_cons_zero] at h1 h2 ⊢
    rw [look_cons, if_pos ⟨h1, h2⟩]
  | x :: m, k + 1, h, h1, h2, h3 => by
    have h0 := h3 0 (by omega)
    simp only [List.getD_cons_zero, List.getD_cons_succ] at h0 h1 h2 ⊢
    rw [look_cons, if_neg h0]
    exact look_hit (by simpa using h) h1 h2 fun t ht => by have := h3 (t + 1) (by omega); simpa only [List.getD_cons_succ] using this
theorem look_miss {nm : ByteArray} {args : List Rt} : ∀ {m : Mdl}, (∀ t, t < m.length → ¬ ((m.getD t dR).1 = nm ∧ (m.getD t dR).2.1 = args)) → look m nm args = (0, 1)
  | [], _ => rfl
  | x :: m, h => by
    have h0 := h 0 (by simp)
    simp only [List.getD_cons_zero] at h0
    rw [look_cons, if_neg h0]
    exact look_miss fun t ht => by have := h (t + 1) (by simpa using ht); simpa only [List.getD_cons_succ] using this
theorem search_look {m : Mdl} (h : mL none m = true) {r : Rw} (hr : r.2.1.all ratOk = true) : bsR m r ≤ m.length ∧ (bsHit m r = true → bsR m r < m.length ∧ look m r.1 r.2.1 = (m.getD (bsR m r) dR).2.2) ∧ (bsHit m r = false → look m r.1 r.2.1 = (0, 1)) := by
  have hm : ∀ t, t < m.length → (m.getD t dR).2.1.all ratOk = true := fun t ht => (rowOk_iff.1 (mL_mem h _ (getD_mem dR ht))).2.2.2
  have hs := (mL_sorted h).2
  have cl : ∀ t, t < m.length → (rowBelow m r t = true ↔ rowLess (m.getD t dR) r = true) := fun t ht => by
    unfold rowBelow; rw [decide_eq_true_eq]; exact cmpRows_less (hm t ht) hr
  have mono : ∀ a b, a ≤ b → b < m.length → rowBelow m r b = true → rowBelow m r a = true := fun a b hab hb hc => by
    by_cases e : a = b
    · rw [e]; exact hc
    · rw [cl b hb] at hc
      rw [cl a (by omega)]
      exact rowLess_trans (hm a (by omega)) (hm b hb) hr (hs a b (by omega) hb) hc
  obtain ⟨h1, h2, h3, h4⟩ := bsF_spec mono m.length 0 m.length (by omega) (by omega) (Nat.le_refl _)
  have e : bsF (rowBelow m r) 0 m.length = bsR m r := rfl
  rw [e] at h1 h2 h3 h4
  have less : ∀ t, t < bsR m r → ¬ ((m.getD t dR).1 = r.1 ∧ (m.getD t dR).2.1 = r.2.1) := fun t ht ⟨e1, e2⟩ => by
    have h5 := h3 t (by omega) ht
    rw [cl t (by omega), rowLess_key (y := r) (z := m.getD t dR) e1.symm e2.symm, rowLess_irrefl (hm t (by omega))] at h5
    cases h5
  refine ⟨h2, fun hh => ?_, fun hh => ?_⟩
  · simp only [bsHit, Bool.and_eq_true, decide_eq_true_eq] at hh
    obtain ⟨hlt, hz⟩ := hh
    obtain ⟨e1, e2⟩ := (cmpRows_zero (hm _ hlt) hr).1 hz
    exact ⟨hlt, look_hit hlt e1 e2 less⟩
  · refine look_miss fun t ht ⟨e1, e2⟩ => ?_
    rcases Nat.lt_trichotomy t (bsR m r) with h5 | h5 | h5
    · exact less t h5 ⟨e1, e2⟩
    · subst h5
      have := (cmpRows_zero (hm _ ht) hr).2 ⟨e1, e2⟩
      simp only [bsHit, this, decide_eq_true ht] at hh
      simp at hh
    · have h6 := hs (bsR m r) t h5 ht
      rw [rowLess_key e1 e2, ← cl _ (by omega), h4 _ (Nat.le_refl _) (by omega)] at h6
      cases h6
end Pl
namespace Cg
open Go Go.Proofs Pl

theorem mid_wrap {a b : Nat} (h : a + b ≤ 1099511627776) : IntKind.i64.wrap ((IntKind.u64.wrap (IntKind.i64.wrap ((a : Int) + (b : Int)))).fdiv 2) = (((a + b) / 2 : Nat) : Int) := by
  rw [wrap_small (x := (a : Int) + b) (by omega) (by omega)]
  have e : IntKind.u64.wrap ((a : Int) + b) = (a : Int) + b := by
    simp only [IntKind.wrap, IntKind.signed, IntKind.bits]
    simp
    omega
  rw [e]
  have e2 : ((a : Int) + b).fdiv 2 = (((a + b) / 2 : Nat) : Int) := by
    rw [Int.fdiv_eq_ediv_of_nonneg _ (by decide)]; omega
  rw [e2]
  exact wrap_small (by omega) (by omega)
theorem k_whole : SoundC Try.prog K_whole.1 K_whole.2 := sound_of hm CtxOK.nil (fun _ => []) (by kernel_rfl) fun (x : Int) hl => (by
  rw [← vc_whole x]
  simp [-List.getD_eq_getElem?_getD, -List.mem_cons, -Bool.forall_bool, -Bool.exists_bool, and_assoc, peta, tl_inj, ex_1, ex_2, ex_3, ex_4, ex_5, ex_6, ex_7, ex_8, ex_9, ey_2, ey_3, ey_4, ey_5, ey_6, ey_7, ey_8, ey_9])
theorem k_l7Look : SoundC Try.prog K_l7Look.1 K_l7Look.2 := sound_of hm (CtxOK.nil.and k_l7Rats) (fun x => A_l7Look x.1 x.2.1 x.2.2) (by kernel_rfl) fun (x : Mdl × ByteArray × List Rt) hl => (by
  rw [← vc_l7Look x]
  have h1 : SmM x.1 := hl
  obtain ⟨m, nm, args⟩ := x
  dsimp only at *
  simp [-List.getD_eq_getElem?_getD, -List.mem_cons, -Bool.forall_bool, -Bool.exists_bool, and_assoc, peta, tl_inj, ex_1, ex_2, ex_3, ex_4, ex_5, ex_6, ex_7, ex_8, ex_9, ey_2, ey_3, ey_4, ey_5, ey_6, ey_7, ey_8, ey_9]
  have hlen := h1.len
  refine ⟨⟨0, by simp, by simp, rfl⟩, fun k hk he => ⟨fun hlt => ?_, fun hge => ?_⟩⟩
  · rw [drop_get dR hlt, look_cons] at he
    have hz := (h1.mem (getD_mem dR hlt)).2
    refine ⟨hlt, fun e1 => ⟨hlt, by omega, fun e2 => ⟨hlt, ?_⟩, fun e2 => ⟨k + 1, hlt, ?_, by omega, wrap_small (by omega) (by omega)⟩⟩, fun e1 => ⟨k + 1, hlt, ?_, by omega, wrap_small (by omega) (by omega)⟩⟩
    · rw [he, if_pos ⟨e1, e2⟩]; exact ⟨rfl, rfl⟩
    · rw [he, if_neg (fun h => e2 h.2)]
    · rw [he, if_neg (fun h => e1 h.1)]
  · rw [he, drop_end (by omega)]; exact ⟨rfl, rfl⟩)
theorem k_l7Term (n : Nat) : SoundC Try.prog (K_l7Term n).1 (K_l7Term n).2 := by
  induction n with
  | zero => exact sound_of hm CtxOK.nil (fun _ => []) (by kernel_rfl) fun x h => absurd h.2 (Nat.not_lt_zero _)
  | succ n ih => exact sound_of hm ((CtxOK.nil.and (K := K_l7Term n) ih).and k_l7Look) (fun x => A_l7Term x.1 x.2.1 x.2.2) (by kernel_rfl) fun (x : Mdl × TP) hl => (by
      have hg : SmM x.1 := hl.1.1
      have ht : SmT (.mk x.2.1 x.2.2) := hl.1.2
      have hn : manyL x.2.2 < n + 1 := hl.2
      clear hl
      rw [← vc_l7Term n x]
      obtain ⟨m, a, b⟩ := x
      dsimp only at *
      simp [-List.getD_eq_getElem?_getD, -List.mem_cons, -Bool.forall_bool, -Bool.exists_bool, and_assoc, peta, tl_inj, ex_1, ex_2, ex_3, ex_4, ex_5, ex_6, ex_7, ex_8, ex_9, ey_2, ey_3, ey_4, ey_5, ey_6, ey_7, ey_8, ey_9]
      have k1 := (SmT.kids ht).len
      refine ⟨⟨0, by simp, by simp [valL], rfl, by simp [valL]⟩, fun k hk => ⟨fun hlt => ?_, fun hge => ?_⟩⟩
      · have hv := valL_step m hlt
        have hl1 := valL_len m (b.take k)
        rw [List.length_take] at hl1
        refine ⟨hlt, hg, (SmT.kids ht).mem (getD_mem dT hlt), by have := manyL_kids (getD_mem dT hlt); omega, by omega, k + 1, hlt, by omega, by rw [hv]; simp, wrap_small (by omega) (by omega), ?_⟩
        rw [hv]; exact rats_push
      · rw [List.take_of_length_le (by omega), valT_mk]; exact ⟨hg, rfl, rfl⟩)
theorem k_lTm : SoundC Try.prog K_lTm.1 K_lTm.2 := SoundC.fam (fun x => manyL x.2.2) fun n => k_l7Term n
theorem k_BinRow : SoundC Try.prog K_BinRow.1 K_BinRow.2 := sound_of hm (CtxOK.nil.and k_compareRows) (fun x => A_BinRow x.1 x.2) (by kernel_rfl) fun (x : Mdl × Rw) hl => (by
  rw [← vc_BinRow x]
  obtain ⟨h1, h2⟩ : SmM x.1 ∧ Sz x.2.2.1 := hl
  obtain ⟨m, nm, args, u1, u2⟩ := x
  dsimp only at *
  simp [-List.getD_eq_getElem?_getD, -List.mem_cons, -Bool.forall_bool, -Bool.exists_bool, and_assoc, peta, tl_inj, ex_1, ex_2, ex_3, ex_4, ex_5, ex_6, ex_7, ex_8, ex_9, ey_2, ey_3, ey_4, ey_5, ey_6, ey_7, ey_8, ey_9]
  have hlen := h1.len
  refine ⟨⟨0, m.length, by omega, by omega, rfl, rfl, rfl⟩, fun i j hij hj he => ⟨fun hlt => ?_, fun hge => ?_⟩⟩
  · rw [mid_wrap (by omega)]
    rw [bsF, if_pos hlt] at he
    have hm : (i + j) / 2 < m.length := by omega
    have hz := (h1.mem (getD_mem dR hm)).2
    refine ⟨by omega, by omega, by omega, by rw [Int.toNat_natCast]; omega, h2, fun h => ?_, fun h => ?_⟩
    · rw [Int.toNat_natCast] at h
      rw [if_pos (by unfold rowBelow; exact decide_eq_true h)] at he
      exact ⟨(i + j) / 2 + 1, j, by omega, hj, he, by omega, wrap_small (by omega) (by omega), rfl⟩
    · rw [Int.toNat_natCast] at h
      rw [if_neg (by unfold rowBelow; rw [decide_eq_true_eq]; omega)] at he
      exact ⟨i, (i + j) / 2, by omega, by omega, he, by omega, rfl, rfl⟩
  · rw [bsF, if_neg (by omega)] at he
    refine ⟨fun h => ⟨h, by have := (h1.mem (getD_mem dR h)).2; omega, h2, by rw [he], ?_⟩, fun h => ⟨by rw [he], ?_⟩⟩
    · unfold bsHit
      rw [he, decide_eq_true h, Bool.true_and, Bool.beq_eq_decide_eq]
    · unfold bsHit
      rw [he, decide_eq_false (by omega)]; rfl)
theorem k_value (n : Nat) : SoundC Try.prog (K_value n).1 (K_value n).2 := by
  induction n with
  | zero => exact sound_of hm CtxOK.nil (fun _ => []) (by kernel_rfl) fun x h => absurd h.2 (Nat.not_lt_zero _)
  | succ n ih => exact sound_of hm (((CtxOK.nil.and (K := K_value n) ih).and k_BinRow).and k_whole) (fun x => A_value x.1 x.2.1 x.2.2) (by kernel_rfl) fun (x : Mdl × TP) hl => (by
      have hs : mL none x.1 = true := hl.1.1
      have hg : SmM x.1 := hl.1.2.1
      have ht : SmT (.mk x.2.1 x.2.2) := hl.1.2.2
      have hn : manyL x.2.2 < n + 1 := hl.2
      clear hl
      rw [← vc_value n x]
      obtain ⟨m, a, b⟩ := x
      dsimp only at *
      simp [-List.getD_eq_getElem?_getD, -List.mem_cons, -Bool.forall_bool, -Bool.exists_bool, and_assoc, peta, tl_inj, ex_1, ex_2, ex_3, ex_4, ex_5, ex_6, ex_7, ex_8, ex_9, ey_2, ey_3, ey_4, ey_5, ey_6, ey_7, ey_8, ey_9]
      have k1 := (SmT.kids ht).len
      have hl0 := valL_len m (b.take 0)
      refine ⟨⟨0, by simp, rfl, by simp [valL]⟩, fun k hk => ⟨fun hlt => ?_, fun hge => ?_⟩⟩
      · have hv := valL_step m hlt
        have hl1 := valL_len m (b.take k)
        rw [List.length_take] at hl1
        refine ⟨hlt, hs, hg, (SmT.kids ht).mem (getD_mem dT hlt), by have := manyL_kids (getD_mem dT hlt); omega, by omega, k + 1, hlt, by omega, wrap_small (by omega) (by omega), by rw [hv]; simp, ?_⟩
        rw [hv]; exact rats_push
      · rw [List.take_of_length_le (by omega), valT_mk]
        obtain ⟨_, s1, s2⟩ := search_look hs (r := (a, valL m b, 0, 0)) (valL_ok hs b)
        dsimp only at s1 s2
        refine ⟨hg, by rw [valL_len]; omega, fun h => ?_, fun h => ?_⟩
        · rw [s2 h]; exact ⟨rfl, rfl⟩
        · obtain ⟨s3, s4⟩ := s1 h
          rw [s4]; exact ⟨s3, rfl, rfl⟩)
theorem k_val : SoundC Try.prog K_val.1 K_val.2 := SoundC.fam (fun x => manyL x.2.2) fun n => k_value n
theorem k_sModelTerm : SoundC Try.prog K_sModelTerm.1 K_sModelTerm.2 := sound_of hm (((CtxOK.nil.and k_lTm).and k_sModelOk).and k_sTermSort) (fun _ => []) (by kernel_rfl) fun (x : Sig × Mdl × TP) hl => (by
  rw [← vc_sModelTerm x]
  obtain ⟨h1, h2, h3⟩ : SmG x.1 ∧ SmM x.2.1 ∧ SmT (.mk x.2.2.1 x.2.2.2) := hl
  obtain ⟨s, m, a, b⟩ := x
  dsimp only at *
  simp [-List.getD_eq_getElem?_getD, -List.mem_cons, -Bool.forall_bool, -Bool.exists_bool, and_assoc, peta, tl_inj, ex_1, ex_2, ex_3, ex_4, ex_5, ex_6, ex_7, ex_8, ex_9, ey_2, ey_3, ey_4, ey_5, ey_6, ey_7, ey_8, ey_9]
  unfold modelTerm
  refine ⟨h1, h3, fun h => ?_, fun h => ⟨h1, h2, fun h4 => ?_, fun h4 => ⟨h2, h3, ?_⟩⟩⟩
  · rw [h]; exact ⟨rfl, rfl, rfl⟩
  · rw [h, h4]; exact ⟨rfl, rfl, rfl⟩
  · rw [h, h4]; exact ⟨rfl, rfl, rfl⟩)
theorem k_iModelTerm : SoundC Try.prog K_iModelTerm.1 K_iModelTerm.2 := sound_of hm (((CtxOK.nil.and k_val).and k_iModelOk).and k_iTermSort) (fun _ => []) (by kernel_rfl) fun (x : Sig × Mdl × TP) hl => (by
  rw [← vc_iModelTerm x]
  obtain ⟨h1, h2, h3⟩ : SmG x.1 ∧ SmM x.2.1 ∧ SmT (.mk x.2.2.1 x.2.2.2) := hl
  obtain ⟨s, m, a, b⟩ := x
  dsimp only at *
  simp [-List.getD_eq_getElem?_getD, -List.mem_cons, -Bool.forall_bool, -Bool.exists_bool, and_assoc, peta, tl_inj, ex_1, ex_2, ex_3, ex_4, ex_5, ex_6, ex_7, ex_8, ex_9, ey_2, ey_3, ey_4, ey_5, ey_6, ey_7, ey_8, ey_9]
  unfold modelTerm
  refine ⟨h1, h3, fun h => ?_, fun h => ⟨h1, h2, fun h4 => ?_, fun h4 => ⟨?_, h2, h3, ?_⟩⟩⟩
  · rw [h]; exact ⟨rfl, rfl, rfl⟩
  · rw [h, h4]; exact ⟨rfl, rfl, rfl⟩
  · simp only [modelOk, mRight, Bool.and_eq_true] at h4; exact h4.1.2.1
  · rw [h, h4]; exact ⟨rfl, rfl, rfl⟩)
end Cg

/-
  The library functions' contracts at this program, laid by the kit's own programs (lay-shelf, lay-plain). No condition.
-/
namespace Go.Proofs
open Go.Shelf
def Try.lays156_ren : Go.Shelf.Ren := ⟨fun | 156 => 100 | 165 => 111 | 166 => 112 | 169 => 113 | 240 => 114 | 241 => 115 | 276 => 116 | 277 => 117 | n => n, fun | 31 => 101 | 9 => 9 | 3 => 3 | 4 => 4 | 0 => 0 | 20 => 20 | 72 => 130 | 76 => 134 | 70 => 128 | 37 => 22 | 75 => 133 | 127 => 137 | 164 => 138 | 5 => 5 | 80 => 136 | n => n, fun | n => n⟩
theorem Try.lays156 : Go.Proofs.Lays.n156 Try.prog Try.lays156_ren := {
  mixed := by kernel_rfl
  f156 := Try.func100.trans (congrArg some (by kernel_rfl))
  f165 := Try.func111.trans (congrArg some (by kernel_rfl))
  f166 := Try.func112.trans (congrArg some (by kernel_rfl))
  f169 := Try.func113.trans (congrArg some (by kernel_rfl))
  f240 := Try.func114.trans (congrArg some (by kernel_rfl))
  f241 := Try.func115.trans (congrArg some (by kernel_rfl))
  f276 := Try.func116.trans (congrArg some (by kernel_rfl))
  f277 := Try.func117.trans (congrArg some (by kernel_rfl))
  t0 := Try.underlying0
  a0 := Try.isAgg0
  z0 := Try.sizeOf0
  v0 := Try.zeroValue0
  t3 := Try.underlying3
  a3 := Try.isAgg3
  z3 := Try.sizeOf3
  v3 := Try.zeroValue3
  t4 := Try.underlying4
  a4 := Try.isAgg4
  z4 := Try.sizeOf4
  v4 := Try.zeroValue4
  t9 := Try.underlying9
  a9 := Try.isAgg9
  z9 := Try.sizeOf9
  v9 := Try.zeroValue9
  t20 := Try.underlying20
  a20 := Try.isAgg20
  z20 := Try.sizeOf20
  v20 := Try.zeroValue20
  t31 := Try.underlying101
  a31 := Try.isAgg101
  z31 := Try.sizeOf101
  v31 := Try.zeroValue101
  t37 := Try.underlying22
  a37 := Try.isAgg22
  z37 := Try.sizeOf22
  v37 := Try.zeroValue22
  t70 := Try.underlying128
  a70 := Try.isAgg128
  z70 := Try.sizeOf128
  v70 := Try.zeroValue128
  t72 := Try.underlying130
  a72 := Try.isAgg130
  z72 := Try.sizeOf130
  v72 := Try.zeroValue130
  t75 := Try.underlying133
  a75 := Try.isAgg133
  z75 := Try.sizeOf133
  v75 := Try.zeroValue133
  t76 := Try.underlying134
  a76 := Try.isAgg134
  z76 := Try.sizeOf134
  v76 := Try.zeroValue134
  t127 := Try.underlying137
  a127 := Try.isAgg137
  z127 := Try.sizeOf137
  v127 := Try.zeroValue137
  t164 := Try.underlying138
  a164 := Try.isAgg138
  z164 := Try.sizeOf138
  v164 := Try.zeroValue138 }
theorem Try.Builder_Extra_156 : Builder.Extra Try.prog Try.lays156_ren := {
  sizeBuilder := by kernel_rfl
  liesBuilder := by kernel_rfl
  t5 := Try.underlying5
  a5 := Try.isAgg5
  z5 := Try.sizeOf5
  v5 := Try.zeroValue5
  infoByte := by kernel_rfl
  cellsByte := by kernel_rfl
  sizeByte := by kernel_rfl
  neB5 := by decide }
open Go.RowKit in
theorem Try.strings_Join (bk o c : Nat) (xs : List ByteArray) (sep : ByteArray) (w : World) (hcells : ∀ (j : Nat) x, xs[j]? = some x → w.cell? ⟨bk, o + j, none⟩ = some (.string x)) (hbk : bk < w.heap.size) (hN : xs.length ≤ 140737488355328) (hcap : xs.length ≤ c) (hlen : (Lib.join (xs.map (·.data.toList)) sep.data.toList).length ≤ 140737488355328) :
    Calls Try.prog 100 #[.slice (some ⟨bk, o, none⟩) xs.length c, .string sep] w fun e w' => e = .returned (.string ⟨(Lib.join (xs.map (·.data.toList)) sep.data.toList).toArray⟩) ∧ Below w.heap.size w w' := Any.strings_Join Try.lays156 Try.Builder_Extra_156 bk o c xs sep w hcells hbk hN hcap hlen
end Go.Proofs

/-
  The library's contracts: joined texts. No condition.
-/
set_option linter.unusedVariables false
set_option linter.unusedSimpArgs false
namespace Pl
open Go
end Pl
namespace Cg
open Go Go.Proofs Pl
end Cg

/-
  The codes' contracts: valid atoms. No condition.
-/
set_option linter.unusedVariables false
set_option linter.unusedSimpArgs false
set_option maxRecDepth 100000
set_option maxHeartbeats 1000000
namespace Pl
open Go Cg
theorem textBs_map : ∀ l : List Tm, textBs l = l.map textB
  | [] => rfl
  | t :: ts => by simp only [textBs, List.map_cons, textBs_map ts]
theorem interL_len (sep : List UInt8) (h1 : sep.length = 1) : ∀ ts : List (List UInt8), (interL sep ts).length ≤ sumN List.length ts + ts.length - 1
  | [] => by simp [interL]
  | [x] => by simp [interL, sumN]
  | x :: y :: r => by
    have := interL_len sep h1 (y :: r)
    simp only [interL, List.length_append, sumN, List.length_cons] at this ⊢
    omega
theorem textB_mk (v : ByteArray) (ks : List Tm) : textB (.mk v ks) = if ks = [] then bl' v else spellB (bl' v) (textBs ks) ++ [41] := by
  rw [textB]
  cases ks with
  | nil => rfl
  | cons k r => simp [spellB, textBs]
mutual
theorem textB_len : ∀ t : Tm, (textB t).length ≤ 2 * costT t
  | .mk v ks => by
    have h := textBs_len ks
    have hl := interL_len [44] rfl (textBs ks)
    have hm : (textBs ks).length = ks.length := by rw [textBs_map]; simp
    rw [textB_mk]
    rw [costT]
    have e : (bl' v).length = v.size := rfl
    by_cases h0 : ks = []
    · rw [if_pos h0]; omega
    · rw [if_neg h0]
      have hp : 0 < ks.length := by cases ks with
        | nil => exact absurd rfl h0
        | cons _ _ => simp
      have hq : (textBs ks).isEmpty = false := by cases hh : textBs ks with
        | nil => rw [hh] at hm; simp at hm; omega
        | cons _ _ => rfl
      unfold spellB
      rw [hq]
      simp only [Bool.false_eq_true, if_false, List.length_append, List.length_singleton]
      omega
theorem textBs_len : ∀ l : List Tm, sumN List.length (textBs l) ≤ 2 * costTs l
  | [] => by simp [textBs, sumN]
  | t :: ts => by
    have h1 := textB_len t
    have h2 := textBs_len ts
    simp only [textBs, sumN, costTs]
    omega
end
@[simp] theorem mkB_list (l : List UInt8) : (mkB l).data.toList = l := rfl
@[simp] theorem mkB_size (l : List UInt8) : (mkB l).size = l.length := rfl
end Pl
namespace Cg
open Go Go.Proofs Pl
end Cg

/-
  The codes' contracts: the truth of literals in models. No condition.
-/
set_option linter.unusedVariables false
set_option linter.unusedSimpArgs false
set_option maxRecDepth 100000
set_option maxHeartbeats 1000000
namespace Pl
open Go Cg
theorem least_div {n d : Int} (hn : n.natAbs ≤ 2000000000000000000) (h1 : 1 ≤ d) (h2 : d ≤ 1000000000000000000) :
    Nat.gcd n.natAbs d.natAbs ≠ 0 ∧ IntKind.i64.wrap (n.tdiv (Nat.gcd n.natAbs d.natAbs)) = n.tdiv (Nat.gcd n.natAbs d.natAbs) ∧ IntKind.i64.wrap (d.tdiv (Nat.gcd n.natAbs d.natAbs)) = d.tdiv (Nat.gcd n.natAbs d.natAbs) := by
  have hg : Nat.gcd n.natAbs d.natAbs ≠ 0 := fun h => by
    have := Nat.eq_zero_of_gcd_eq_zero_right h
    omega
  have e1 : (n.tdiv (Nat.gcd n.natAbs d.natAbs)).natAbs ≤ n.natAbs := by rw [Int.natAbs_tdiv]; exact Nat.div_le_self _ _
  have e2 : (d.tdiv (Nat.gcd n.natAbs d.natAbs)).natAbs ≤ d.natAbs := by rw [Int.natAbs_tdiv]; exact Nat.div_le_self _ _
  exact ⟨hg, wrap_small (by omega) (by omega), wrap_small (by omega) (by omega)⟩
end Pl
namespace Cg
open Go Go.Proofs Pl
theorem k_l1Least : SoundC Try.prog K_l1Least.1 K_l1Least.2 := sound_of hm ((CtxOK.nil.and k_sRatOk).and k_l1Gcd) (fun _ => []) (by kernel_rfl) fun (x : Int × Int) hl => (by
  obtain ⟨h1, h2, h3⟩ : x.1.natAbs ≤ 2000000000000000000 ∧ 1 ≤ x.2 ∧ x.2 ≤ 1000000000000000000 := hl
  rw [← vc_l1Least x]
  obtain ⟨n, d⟩ := x
  dsimp only at *
  obtain ⟨g1, g2, g3⟩ := least_div h1 h2 h3
  have fin : ∃ x_2 : Rt, ((IntKind.i64.wrap (n.tdiv (Nat.gcd n.natAbs d.natAbs)) = x_2.fst ∧ IntKind.i64.wrap (d.tdiv (Nat.gcd n.natAbs d.natAbs)) = x_2.snd ∧ True) ∧ True) ∧ True ∧
      condP (!ratOk x_2) (((0 : Int) = (ratV (least n d)).fst ∧ (0 : Int) = (ratV (least n d)).snd ∧ True) ∧ false = (least n d).isSome ∧ True)
        ((IntKind.i64.wrap (n.tdiv (Nat.gcd n.natAbs d.natAbs)) = (ratV (least n d)).fst ∧ IntKind.i64.wrap (d.tdiv (Nat.gcd n.natAbs d.natAbs)) = (ratV (least n d)).snd ∧ True) ∧ true = (least n d).isSome ∧ True) := by
    refine ⟨(n.tdiv (Nat.gcd n.natAbs d.natAbs), d.tdiv (Nat.gcd n.natAbs d.natAbs)), ⟨⟨g2, g3, trivial⟩, trivial⟩, trivial, ?_⟩
    rw [g2, g3]
    unfold least
    cases e : ratOk (n.tdiv (Nat.gcd n.natAbs d.natAbs), d.tdiv (Nat.gcd n.natAbs d.natAbs)) <;> simp [condP, ratV]
  rw [condP_iff]
  simp only [decide_eq_true_eq, decide_eq_false_iff_not]
  refine ⟨fun hn => ⟨(n.natAbs, d.natAbs), ⟨by rw [wrap_small (by omega) (by omega)]; simp only; omega, by simp only; omega, trivial⟩, ⟨by simp only; omega, by simp only; omega⟩, by simp only; omega, by simp only; omega, fin⟩, fun hn => ⟨(n.natAbs, d.natAbs), ⟨by simp only; omega, by simp only; omega, trivial⟩, ⟨by simp only; omega, by simp only; omega⟩, by simp only; omega, by simp only; omega, fin⟩⟩)
end Cg

/-
  The codes' contracts: drawn words and models. No condition.
-/
set_option linter.unusedVariables false
set_option linter.unusedSimpArgs false
set_option maxRecDepth 100000
namespace Cg
open Go Go.Proofs Pl
theorem slit (v : ByteArray) (j : Nat) (hj : j < 1) : [st v].getD j .any = eS v j := by
  have : j = 0 := by omega
  subst this
  rfl
@[simp] theorem strs_lit3 {a b c : ByteArray} {m : List ByteArray} : Is (.lit 3 1 (rowsCell [[st a], [st b], [st c]])) (strs m) ↔ [a, b, c] = m := Is_lits (by decide) EncN.eS [a, b, c] m (fun v => [st v]) slit
@[simp] theorem strs_lit5 {a b c d e : ByteArray} {m : List ByteArray} : Is (.lit 5 1 (rowsCell [[st a], [st b], [st c], [st d], [st e]])) (strs m) ↔ [a, b, c, d, e] = m := Is_lits (by decide) EncN.eS [a, b, c, d, e] m (fun v => [st v]) slit
@[simp] theorem strs_lit4 {a b c d : ByteArray} {m : List ByteArray} : Is (.lit 4 1 (rowsCell [[st a], [st b], [st c], [st d]])) (strs m) ↔ [a, b, c, d] = m := Is_lits (by decide) EncN.eS [a, b, c, d] m (fun v => [st v]) slit
theorem k_of : SoundC Try.prog K_of.1 K_of.2 := sound_of hm (CtxOK.nil.and k_pick) (fun _ => []) (by kernel_rfl) fun ((b, p, l) : List Int × Int × List ByteArray) hb => (by
  obtain ⟨h1, h2, h3⟩ : Rd 1099511627776 b p ∧ l ≠ [] ∧ Sz l := hb
  rw [← vc_of b p l]
  simp [-List.getD_eq_getElem?_getD, -List.mem_cons, -Bool.forall_bool, -Bool.exists_bool, and_assoc, peta, tl_inj, ex_1, ex_2, ex_3, ex_4, ex_5, ex_6, ex_7, ex_8, ex_9, ey_2, ey_3, ey_4, ey_5, ey_6, ey_7, ey_8, ey_9]
  have h0 : 0 < l.length := List.length_pos_iff.2 h2
  refine ⟨h1, fun y hy _ => ?_⟩
  obtain ⟨h4, h5⟩ := hy (by omega)
  exact ⟨h4, h5, by omega, getD_mem _ (by omega)⟩)
theorem k_rat : SoundC Try.prog K_rat.1 K_rat.2 := sound_of hm (CtxOK.nil.and k_num) (fun _ => []) (by kernel_rfl) fun ((b, p) : List Int × Int) hb => (by
  replace hb : Rd 549755813888 b p := hb
  rw [← vc_rat b p]
  simp [-List.getD_eq_getElem?_getD, -List.mem_cons, -Bool.forall_bool, -Bool.exists_bool, and_assoc, peta, tl_inj, ex_1, ex_2, ex_3, ex_4, ex_5, ex_6, ex_7, ex_8, ex_9, ey_2, ey_3, ey_4, ey_5, ey_6, ey_7, ey_8, ey_9]
  have g3 := hb.2.2.1
  have g4 := hb.2.2.2
  exact ⟨hb.to (by omega) (by omega), fun y _ => ⟨hb.to (by omega) (by omega), fun z _ => by omega⟩⟩)
theorem k_RatOfP : SoundC Try.prog K_RatOfP.1 K_RatOfP.2 := sound_of hm ((CtxOK.nil.and k_l1Least).and k_l1Abs) (fun _ => []) (by kernel_rfl) fun ((n, d) : Int × Int) hb => (by
  obtain ⟨h1, h2, h3⟩ : n.natAbs ≤ 1000000000 ∧ 1 ≤ d ∧ d ≤ 1000000000 := hb
  rw [← vc_RatOfP n d]
  simp [-List.getD_eq_getElem?_getD, -List.mem_cons, -Bool.forall_bool, -Bool.exists_bool, and_assoc, peta, tl_inj, ex_1, ex_2, ex_3, ex_4, ex_5, ex_6, ex_7, ex_8, ex_9, ey_2, ey_3, ey_4, ey_5, ey_6, ey_7, ey_8, ey_9]
  have e1 : abs1 n ≤ 1000000000 := by unfold abs1; split <;> (try split) <;> omega
  have e2 : abs1 d ≤ 1000000000 := by unfold abs1; split <;> (try split) <;> omega
  exact ⟨fun h => absurd h (by omega), fun _ => ⟨fun h => absurd h (by omega), fun _ => ⟨fun h => absurd h (by omega), fun _ => ⟨fun h => absurd h (by omega), fun _ => ⟨by omega, h2, by omega⟩⟩⟩⟩⟩)
theorem k_l7Value : SoundC Try.prog K_l7Value.1 K_l7Value.2 := sound_of hm (((CtxOK.nil.and k_RatOfP).and k_num).and k_pick) (fun _ => []) (by kernel_rfl) fun ((b, p, s) : List Int × Int × Int) hb => (by
  replace hb : Rd 549755813888 b p := hb
  rw [← vc_l7Value b p s]
  simp [-List.getD_eq_getElem?_getD, -List.mem_cons, -Bool.forall_bool, -Bool.exists_bool, and_assoc, peta, tl_inj, ex_1, ex_2, ex_3, ex_4, ex_5, ex_6, ex_7, ex_8, ex_9, ey_2, ey_3, ey_4, ey_5, ey_6, ey_7, ey_8, ey_9]
  have g3 := hb.2.2.1
  have g4 := hb.2.2.2
  refine ⟨fun _ => ⟨hb.to (by omega) (by omega), fun _ _ _ => by omega⟩, fun _ => ⟨hb.to (by omega) (by omega), fun y hy => ⟨hb.to (by omega) (by omega), fun z hz => ?_⟩⟩⟩
  simp at hy hz
  exact ⟨by omega, by omega, by omega, fun _ => ⟨by omega, by omega⟩, fun _ => ⟨by omega, by omega⟩⟩)
/-- Rows that were written out, one by one. -/
def LitR {α : Type} (k : Nat) (e : α → Nat → AV) (d : α) (rows : List (List AV)) (l : List α) : Prop := rows.length = l.length ∧ ∀ i, i < l.length → ∀ j, j < k → Is ((rows.getD i []).getD j .any) (e (l.getD i d) j)
theorem LitR.nil {α : Type} {k : Nat} {e : α → Nat → AV} {d : α} : LitR k e d [] [] := ⟨rfl, fun i hi => by cases hi⟩
theorem LitR.cons {α : Type} {k : Nat} {e : α → Nat → AV} {d : α} {rows : List (List AV)} {l : List α} (h : LitR k e d rows l) {r : List AV} {v : α} (hr : ∀ j, j < k → Is (r.getD j .any) (e v j)) : LitR k e d (r :: rows) (v :: l) :=
  ⟨by simp [h.1], fun i hi j hj => by
    cases i with
    | zero => exact hr j hj
    | succ i => exact h.2 i (by simpa using hi) j hj⟩
theorem LitR.is {α : Type} {k : Nat} {e : α → Nat → AV} {d : α} {rows : List (List AV)} {l : List α} (h : LitR k e d rows l) : Is (.lit rows.length k (rowsCell rows)) (.sl l.length k fun i j => e (l.getD i d) j) :=
  Is_lit_of h.1 fun i hi j hj => h.2 i hi j hj
theorem rowY {a : ByteArray} {b : AV} {l : List Int} {c : Int} (hb : Is b (ints l)) : ∀ j, j < 3 → Is ([st a, b, i64 c].getD j .any) (eY (a, l, c) j) := Is_rowY hb
theorem ints_l0 {q : Nat} {c : Nat → Nat → AV} : Is (.lit 0 q c) (ints []) := ints_nil.2 rfl
theorem ints_l1 {a : Int} : Is (.lit 1 1 (rowsCell [[i64 a]])) (ints [a]) := ints_lit1.2 rfl
theorem ints_l2 {a b : Int} : Is (.lit 2 1 (rowsCell [[i64 a], [i64 b]])) (ints [a, b]) := ints_lit2.2 rfl
theorem base_small (k : Int) : SgB 5 2 (base k) := by
  unfold base
  split
  · exact ⟨by decide, by simp; decide⟩
  · split
    · exact ⟨by decide, by simp; decide⟩
    · split
      · exact ⟨by decide, by simp; decide⟩
      · split
        · exact ⟨by decide, by simp; decide⟩
        · exact ⟨by decide, by simp⟩
theorem k_l4Base : SoundC Try.prog K_l4Base.1 K_l4Base.2 := sound_of hm CtxOK.nil (fun _ => []) (by kernel_rfl) fun (k : Int) hb => (by
  rw [← vc_l4Base k]
  simp [-List.getD_eq_getElem?_getD, -List.mem_cons, -Bool.forall_bool, -Bool.exists_bool, and_assoc, peta, tl_inj, ex_1, ex_2, ex_3, ex_4, ex_5, ex_6, ex_7, ex_8, ex_9, ey_2, ey_3, ey_4, ey_5, ey_6, ey_7, ey_8, ey_9]
  refine ⟨fun h => ?_, fun h0 => ⟨fun h => ?_, fun h1 => ⟨fun h => ?_, fun h2 => ⟨fun h => ?_, fun h3 => ?_⟩⟩⟩⟩
  · unfold base; rw [if_pos h]
    exact (((((LitR.nil.cons (rowY ints_l2)).cons (rowY ints_l1)).cons (rowY ints_l0)).cons (rowY ints_l0)).cons (rowY ints_l0)).is
  · unfold base; rw [if_neg h0, if_pos h]
    exact (((((LitR.nil.cons (rowY ints_l0)).cons (rowY ints_l0)).cons (rowY ints_l1)).cons (rowY ints_l0)).cons (rowY ints_l0)).is
  · unfold base; rw [if_neg h0, if_neg h1, if_pos h]
    exact ((((LitR.nil.cons (rowY ints_l0)).cons (rowY ints_l0)).cons (rowY ints_l0)).cons (rowY ints_l1)).is
  · unfold base; rw [if_neg h0, if_neg h1, if_neg h2, if_pos h]
    exact (((((LitR.nil.cons (rowY ints_l0)).cons (rowY ints_l0)).cons (rowY ints_l2)).cons (rowY ints_l1)).cons (rowY ints_l0)).is
  · unfold base; rw [if_neg h0, if_neg h1, if_neg h2, if_neg h3])
theorem k_l4Sig : SoundC Try.prog K_l4Sig.1 K_l4Sig.2 := sound_of hm ((CtxOK.nil.and k_l4Base).and k_num) (fun _ => []) (by kernel_rfl) fun ((b, p) : List Int × Int) hb => (by
  replace hb : Rd 549755813888 b p := hb
  rw [← vc_l4Sig b p]
  simp [-List.getD_eq_getElem?_getD, -List.mem_cons, -Bool.forall_bool, -Bool.exists_bool, and_assoc, peta, tl_inj, ex_1, ex_2, ex_3, ex_4, ex_5, ex_6, ex_7, ex_8, ex_9, ey_2, ey_3, ey_4, ey_5, ey_6, ey_7, ey_8, ey_9]
  exact ⟨hb.to hb.2.2.1 (by have := hb.2.2.2; omega), fun y _ => base_small y⟩)
theorem IsR_store {α : Type} {k : Nat} {e : α → Nat → AV} {d : α} (he : EncN k e) {l : List α} {i0 off : Nat} {v : α} {vs : List AV}
    (h : ∀ j, j < k → Is (bif Nat.ble off j && Nat.blt j (off + vs.length) then vs.getD (j - off) .any else e (l.getD i0 d) j) (e v j)) : IsR k e d (storeC (fun i j => e (l.getD i d) j) i0 off vs) (l.set i0 v) := fun i hi j hj => by
  have hi' : i < l.length := by simpa using hi
  unfold storeC
  by_cases hii : i = i0
  · subst hii
    have e1 : (l.set i v).getD i d = v := by simp [hi']
    rw [e1, beq_iff.2 rfl, Bool.true_and]
    exact h j hj
  · have e1 : (l.set i0 v).getD i d = l.getD i d := by simp only [List.getD_eq_getElem?_getD, List.getElem?_set_ne (Ne.symm hii)]
    have e2 : Nat.beq i i0 = false := by
      cases hb : Nat.beq i i0
      · rfl
      · exact absurd (beq_iff.1 hb) hii
    rw [e1, e2]
    exact he.self _ hj
theorem IsR_storeG {α : Type} {k : Nat} {e : α → Nat → AV} {d : α} {c : Nat → Nat → AV} {l : List α} (hc : IsR k e d c l) {i0 : Nat} {v : α} {vs : List AV} (hl : vs.length = k)
    (h : ∀ j, j < k → Is (vs.getD j .any) (e v j)) : IsR k e d (storeC c i0 0 vs) (l.set i0 v) := fun i hi j hj => by
  have hi' : i < l.length := by simpa using hi
  unfold storeC
  by_cases hii : i = i0
  · subst hii
    have e1 : (l.set i v).getD i d = v := by simp [hi']
    rw [e1, beq_iff.2 rfl, Bool.true_and, ble_iff.2 (Nat.zero_le j), blt_true (by omega), Bool.true_and, cond_true, Nat.sub_zero]
    exact h j hj
  · have e1 : (l.set i0 v).getD i d = l.getD i d := by simp only [List.getD_eq_getElem?_getD, List.getElem?_set_ne (Ne.symm hii)]
    have e2 : Nat.beq i i0 = false := by
      cases hb : Nat.beq i i0
      · rfl
      · exact absurd (beq_iff.1 hb) hii
    rw [e1, e2, Bool.false_and, Bool.false_and, cond_false]
    exact hc i hi' j hj
theorem IsX_v (x : Value) : IsX (.v x) (.v x) := rfl
theorem IsX_eR (x : Rw) (j : Nat) (hj : j < 4) : IsX (eR x j) (eR x j) := by
  match j, hj with
  | 0, _ => exact IsX_v _
  | 1, _ => exact ⟨rfl, rfl, fun i hi j hj => EncN.eQ.self _ hj⟩
  | 2, _ => exact IsX_v _
  | 3, _ => exact IsX_v _
@[simp] theorem xrR_self {l : List Rw} : IsO (xrR l) (xrR l) := ⟨rfl, rfl, fun i hi j hj => IsX_eR _ j hj⟩
theorem mem_set_imp {α : Type} {q : α → Prop} {l : List α} {i : Nat} {v : α} (h : ∀ x ∈ l, q x) (hv : q v) : ∀ x ∈ l.set i v, q x := fun x hx => by
  rcases List.mem_or_eq_of_mem_set hx with e | e
  · exact h x e
  · rw [e]; exact hv
theorem mem_push_imp {α : Type} {q : α → Prop} {l : List α} {v : α} (h : ∀ x ∈ l, q x) (hv : q v) : ∀ x ∈ l ++ [v], q x := fun x hx => by
  rcases List.mem_append.1 hx with e | e
  · exact h x e
  · rw [List.mem_singleton.1 e]; exact hv
theorem _root_.Pl.SgB.mono {n k n' k' : Nat} {s : Pl.Sig} (h : SgB n k s) (h1 : n ≤ n') (h2 : k ≤ k') : SgB n' k' s := ⟨Nat.le_trans h.1 h1, fun x hx => ⟨(h.2 x hx).1, Nat.le_trans (h.2 x hx).2 h2⟩⟩
theorem _root_.Pl.SgB.set {n k : Nat} {s : Pl.Sig} (h : SgB n k s) {i : Nat} {x : Sym} (hx : x.1.size ≤ 10 ∧ x.2.1.length ≤ k) : SgB n k (s.set i x) := ⟨by simpa using h.1, mem_set_imp h.2 hx⟩
theorem _root_.Pl.SgB.push {n k : Nat} {s : Pl.Sig} (h : SgB n k s) {x : Sym} (hn : s.length < n) (hx : x.1.size ≤ 10 ∧ x.2.1.length ≤ k) : SgB n k (s ++ [x]) := ⟨by simp; omega, mem_push_imp h.2 hx⟩
theorem _root_.Pl.MdB.mono {n k n' k' : Nat} {s : Mdl} (h : MdB n k s) (h1 : n ≤ n') (h2 : k ≤ k') : MdB n' k' s := ⟨Nat.le_trans h.1 h1, fun x hx => ⟨(h.2 x hx).1, Nat.le_trans (h.2 x hx).2 h2⟩⟩
theorem _root_.Pl.MdB.set {n k : Nat} {s : Mdl} (h : MdB n k s) {i : Nat} {x : Rw} (hx : x.1.size ≤ 10 ∧ x.2.1.length ≤ k) : MdB n k (s.set i x) := ⟨by simpa using h.1, mem_set_imp h.2 hx⟩
theorem _root_.Pl.MdB.push {n k : Nat} {s : Mdl} (h : MdB n k s) {x : Rw} (hn : s.length < n) (hx : x.1.size ≤ 10 ∧ x.2.1.length ≤ k) : MdB n k (s ++ [x]) := ⟨by simp; omega, mem_push_imp h.2 hx⟩
theorem names4 : ∀ y ∈ [(⟨#[]⟩ : ByteArray), ⟨#[65]⟩, ⟨#[122, 122]⟩], y.size ≤ 10 := by decide
theorem k_l7Some0 (k_l7Any : SoundC Try.prog K_l7Any.1 K_l7Any.2) : SoundC Try.prog K_l7Some.1 K_l7Some.2 := sound_of hm ((((CtxOK.nil.and k_of).and k_rat).and k_pick).and k_l7Any) (fun _ => []) (by kernel_rfl) fun ((b, p, s) : List Int × Int × Pl.Sig) hb => (by
  obtain ⟨h1, h2⟩ : Rd 68719476736 b p ∧ SgB 5 2 s := hb
  rw [← vc_l7Some b p s]
  simp [-List.getD_eq_getElem?_getD, -List.mem_cons, -Bool.forall_bool, -Bool.exists_bool, and_assoc, peta, tl_inj, ex_1, ex_2, ex_3, ex_4, ex_5, ex_6, ex_7, ex_8, ex_9, ey_2, ey_3, ey_4, ey_5, ey_6, ey_7, ey_8, ey_9]
  have g3 := h1.2.2.1
  have g4 := h1.2.2.2
  refine ⟨h1.to (by omega) (by omega), h2, fun m q hm q1 q2 => ?_⟩
  have hB : MdB 16 3 m := hm.mono (by decide) (by decide)
  obtain ⟨m1, m2⟩ : m.length ≤ 15 ∧ ∀ x ∈ m, x.1.size ≤ 10 ∧ x.2.1.length ≤ 2 := id hm
  refine ⟨fun _ => ⟨hB, by omega, by omega⟩, fun hne => ⟨h1.to (by omega) (by omega), fun y y1 y2 => ⟨fun _ => ⟨hB, by omega, by omega⟩, fun _ => ⟨h1.to (by omega) (by omega), fun k hk _ => ⟨h1.to (by omega) (by omega), fun z z1 z2 => ?_⟩⟩⟩⟩⟩
  have h0 : 0 < m.length := List.length_pos_iff.2 hne
  obtain ⟨k1, k2⟩ := hk (by omega)
  have hkl : k.toNat < m.length := by omega
  have h3 := m2 _ (getD_mem dR hkl)
  have h30 := m2 _ (getD_mem dR h0)
  have hsl : ∀ v : Rw, (m.set k.toNat v).length = m.length := fun v => by simp
  refine ⟨fun _ => ⟨h1.to (by omega) (by omega), fun v w => ?_⟩, fun _ => ⟨fun _ => ?_, fun _ => ⟨fun _ => ?_, fun _ => ⟨fun _ => ⟨h1.to (by omega) (by omega), fun nm hnm => ?_⟩, fun _ => ?_⟩⟩⟩⟩
  · exact ⟨by omega, by omega, by omega, _, hB.set (x := ((m.getD k.toNat dR).1, (m.getD k.toNat dR).2.1, v, w)) ⟨h3.1, Nat.le_trans h3.2 (by decide)⟩, by omega, by omega, Is_sl_of (hsl _).symm (IsR_store EncN.eR fun j hj => by
      match j, hj with
      | 0, _ => exact EncN.eR.self _ (j := 0) (by decide)
      | 1, _ => exact EncN.eR.self _ (j := 1) (by decide)
      | 2, _ => exact Is_i64.2 rfl
      | 3, _ => exact Is_i64.2 rfl)⟩
  · exact ⟨by omega, by omega, by omega, by omega, _, hB.push (x := m.getD k.toNat dR) (by omega) ⟨h3.1, by omega⟩, by omega, by omega, ((Rds.cel EncN.eR m).join (Rds.row (IsR_row EncN.eR (Is_rowR (Is_rats.2 rfl))))).is⟩
  · exact ⟨by omega, by omega, by omega, by omega, by omega, by omega, by omega, _, hB.set (x := ((m.getD k.toNat dR).1, (m.getD k.toNat dR).2.1 ++ [(0, 1)], (m.getD k.toNat dR).2.2)) ⟨h3.1, by dsimp only; rw [List.length_append, List.length_singleton]; omega⟩, by omega, by omega, Is_sl_of (hsl _).symm (IsR_store EncN.eR fun j hj => by
      match j, hj with
      | 0, _ => exact EncN.eR.self _ (j := 0) (by decide)
      | 1, _ => exact ((Rds.cel EncN.eQ (m.getD k.toNat dR).2.1).join (Rds.row (d := dQ) (v := ((0, 1) : Rt)) (r := [i64 0, i64 1]) (IsR_row EncN.eQ fun j hj => by
          match j, hj with
          | 0, _ => exact Is_i64.2 rfl
          | 1, _ => exact Is_i64.2 rfl))).is
      | 2, _ => exact EncN.eR.self _ (j := 2) (by decide)
      | 3, _ => exact EncN.eR.self _ (j := 3) (by decide))⟩
  · exact ⟨by omega, by omega, by omega, _, hB.set (x := (nm, (m.getD k.toNat dR).2)) ⟨names4 nm hnm, Nat.le_trans h3.2 (by decide)⟩, by omega, by omega, Is_sl_of (hsl _).symm (IsR_store EncN.eR fun j hj => by
      match j, hj with
      | 0, _ => exact Is_st.2 rfl
      | 1, _ => exact EncN.eR.self _ (j := 1) (by decide)
      | 2, _ => exact EncN.eR.self _ (j := 2) (by decide)
      | 3, _ => exact EncN.eR.self _ (j := 3) (by decide))⟩
  · refine ⟨by omega, by omega, by omega, by omega, by omega, by omega, by omega, by omega, (m.set k.toNat (m.getD 0 dR)).set 0 (m.getD k.toNat dR), (hB.set ⟨h30.1, by omega⟩).set ⟨h3.1, by omega⟩, by omega, by omega, ?_⟩
    exact Is_sl_of (by simp) (IsR_storeG (IsR_storeG (IsR_cel EncN.eR) rfl (Is_rowR (Is_rats.2 rfl))) rfl (Is_rowR (Is_rats.2 rfl))))
end Cg

/-
  Drawn models that stay as they are. No condition.
-/

/-
  What is left to show of each function's code, printed by a program: Mdf. No condition.
-/
set_option maxRecDepth 100000
set_option linter.unusedVariables false
namespace Cg
open Go Go.Proofs
end Cg

/-
  The codes' contracts: drawn models, the rest, and the law that models are compared exactly. No condition.
-/
set_option linter.unusedVariables false
set_option linter.unusedSimpArgs false
set_option maxRecDepth 100000
namespace Cg
open Go Go.Proofs Pl
theorem sg_sm {n k : Nat} {s : Pl.Sig} (h : SgB n k s) (hn : n ≤ 100 := by decide) (hk : k ≤ 100 := by decide) : costG s ≤ 1048576 := by
  have : sumN costY s ≤ s.length * 110 := sumN_le fun x hx => by have := h.2 x hx; unfold costY; omega
  have h1 := h.1
  have : s.length * 110 ≤ 100 * 110 := Nat.mul_le_mul_right _ (by omega)
  unfold costG; omega
theorem md_sm {n k : Nat} {m : Mdl} (h : MdB n k m) (hn : n ≤ 100 := by decide) (hk : k ≤ 100 := by decide) : costM m ≤ 1048576 := by
  have : sumN costR m ≤ m.length * 110 := sumN_le fun x hx => by have := h.2 x hx; unfold costR; omega
  have h1 := h.1
  have : m.length * 110 ≤ 100 * 110 := Nat.mul_le_mul_right _ (by omega)
  unfold costM; omega
theorem k_l7Any : SoundC Try.prog K_l7Any.1 K_l7Any.2 := sound_of hm (((CtxOK.nil.and k_l7PutX).and k_l7Value).and k_num) (fun (b, p, s) => A_l7Any b p s) (by kernel_rfl) fun ((b, p, s) : List Int × Int × Pl.Sig) hb => (by
  obtain ⟨h1, h2⟩ : Rd 137438953472 b p ∧ SgB 5 2 s := hb
  rw [← vc_l7Any b p s]
  simp [-List.getD_eq_getElem?_getD, -List.mem_cons, -Bool.forall_bool, -Bool.exists_bool, and_assoc, peta, tl_inj, ex_1, ex_2, ex_3, ex_4, ex_5, ex_6, ex_7, ex_8, ex_9, ey_2, ey_3, ey_4, ey_5, ey_6, ey_7, ey_8, ey_9]
  obtain ⟨s1, s2⟩ : s.length ≤ 5 ∧ ∀ x ∈ s, x.1.size ≤ 10 ∧ x.2.1.length ≤ 2 := id h2
  have g3 := h1.2.2.1
  have g4 := h1.2.2.2
  refine ⟨⟨0, by omega, [], ⟨Nat.zero_le _, fun x hx => by cases hx⟩, by omega, rfl, rfl, rfl⟩, fun i m q hi hm q1 q2 => ⟨fun hlt => ⟨h1.to (by omega) (by omega), fun y hy => ⟨?_, fun k m q hk1 hk2 hm q3 q4 => ⟨fun hk => ?_, fun hk => ?_⟩⟩⟩, fun hge => ?_⟩⟩
  · simp at hy
    exact ⟨y, by omega, by omega, m, hm.mono (by omega) (Nat.le_refl _), by omega, by omega, rfl, rfl, xrR_self⟩
  · have hN := s2 _ (getD_mem dY hlt)
    have hr1 : Rd 549755813888 b q := h1.to (by omega) (by omega)
    have init : ∀ b3 : Int, q ≤ b3 → b3 ≤ q + 2 → ∃ a_18, a_18 ≤ (s.getD i dY).snd.fst.length ∧ ∃ a_19 : List Rt, a_19.length = a_18 ∧ p ≤ b3 ∧ b3 ≤ p + 100 * (i : Int) + 3 + 30 * (3 - k) + 2 * (a_18 : Int) ∧ (0 : Int) = a_18 ∧ a_19 = [] := fun b3 e1 e2 =>
      ⟨0, by omega, [], rfl, by omega, by omega, rfl, rfl⟩
    have stp : ∀ (j : Nat) (al : List Rt) (u : Int), al.length = j → p ≤ u → u ≤ p + 100 * (i : Int) + 3 + 30 * (3 - k) + 2 * (j : Int) → j < (s.getD i dY).snd.fst.length → ∀ (v w u' : Int), u ≤ u' → u' ≤ u + 2 → (al.length + 1) * 16 ≤ 70368744177664 ∧
        ∃ a_29, a_29 ≤ (s.getD i dY).snd.fst.length ∧ ∃ a_30, a_30.length = a_29 ∧ p ≤ u' ∧ u' ≤ p + 100 * (i : Int) + 3 + 30 * (3 - k) + 2 * (a_29 : Int) ∧ (s.getD i dY).snd.fst.length - a_29 < (s.getD i dY).snd.fst.length - j ∧ IntKind.i64.wrap ((j : Int) + 1) = (a_29 : Int) ∧ al.length + 1 = a_30.length ∧
        IsO (AObj.arr (al.length + 1) 2 (joinC al.length (cQ al) (rowsCell [[i64 v, i64 w]]))) (arQ a_30) := fun j al u e1 e2 e3 e4 v w u' e5 e6 =>
      ⟨by omega, j + 1, by omega, al ++ [(v, w)], by simp; omega, by omega, by omega, by omega, wrap_succ e4 (by omega), by simp, IsO_join EncN.eQ (IsR_row EncN.eQ fun j hj => by
        match j, hj with
        | 0, _ => exact Is_i64.2 rfl
        | 1, _ => exact Is_i64.2 rfl)⟩
    have ext : ∀ (j : Nat) (al : List Rt) (v w u : Int), j ≤ (s.getD i dY).snd.fst.length → al.length = j → p ≤ u → u ≤ p + 100 * (i : Int) + 3 + 30 * (3 - k) + 2 * (j : Int) →
        ∃ a_26 : List Rw, a_26.length ≤ 1000 ∧ (∀ (a : ByteArray) (a_27 : List Rt) (a_28 b : Int), (a, a_27, a_28, b) ∈ a_26 → a_27.length ≤ 1000) ∧ ∃ (a_27 : ByteArray) (a_28 : List Rt), a_28.length ≤ 1000 ∧ m.length = a_26.length ∧ (s.getD i dY).fst = a_27 ∧ al.length = a_28.length ∧ IsO (xrR m) (xrR a_26) ∧ (a_28 = [] ∨ al = a_28) ∧
          ∀ y : List Nat, HPut a_26.length y → ∃ a_30 : Int, 0 ≤ a_30 ∧ a_30 ≤ 3 ∧ ∃ a_31 : Mdl, MdB (3 * i + 3 - a_30.toNat) 2 a_31 ∧ p ≤ u ∧ u ≤ p + 100 * (i : Int) + 1 + 30 * (3 - a_30) ∧ max a_30 0 < k ∧ y.length = a_31.length ∧ IntKind.i64.wrap (k - 1) = a_30 ∧
            IsO (xrR (List.map (fun i => (a_26 ++ [(a_27, a_28, v, w)]).getD i dR) y)) (xrR a_31) := fun j al v w u e1 e2 e3 e4 => by
      obtain ⟨m1, m2⟩ : m.length ≤ 3 * i + 3 - k.toNat ∧ ∀ x ∈ m, x.1.size ≤ 10 ∧ x.2.1.length ≤ 2 := id hm
      refine ⟨m, by omega, fun a b c d h => by have := (m2 _ h).2; dsimp only at this; omega, (s.getD i dY).fst, al, by omega, rfl, rfl, rfl, xrR_self, .inr rfl, fun y hy => ?_⟩
      obtain ⟨y1, y2, y3⟩ := hy
      refine ⟨k - 1, by omega, by omega, List.map (fun i' => (m ++ [((s.getD i dY).fst, al, v, w)]).getD i' dR) y, ⟨by simp; omega, fun x hx => ?_⟩, by omega, by omega, by omega, by simp, wrap_small (by omega) (by omega), xrR_self⟩
      obtain ⟨n, hn, rfl⟩ := List.mem_map.1 hx
      have hn' := y3 n hn
      have : (m ++ [((s.getD i dY).fst, al, v, w)]).getD n dR ∈ m ++ [((s.getD i dY).fst, al, v, w)] := getD_mem dR (by simp; omega)
      rcases List.mem_append.1 this with e | e
      · exact m2 _ e
      · rw [List.mem_singleton.1 e]; exact ⟨hN.1, by dsimp only; omega⟩
    repeat' first
      | exact hlt
      | exact hr1
      | apply And.intro
    all_goals
      intro b3 h3 h4
      repeat' first
        | exact hlt
        | exact init b3 h3 h4
        | apply And.intro
    all_goals
      intro j al v w u e1 e2 e3 e4
      repeat' first
        | exact hlt
        | exact fun e5 => ext j al v w u e1 e2 e3 e4
        | apply And.intro
    all_goals
      intro e5
      repeat' first
        | exact hlt
        | exact e5
        | exact h1.to (by omega) (by omega)
        | exact fun v w u' => stp j al u e2 e3 e4 e5 v w u'
        | apply And.intro
  · obtain rfl : k = 0 := by omega
    exact ⟨i + 1, by omega, m, hm.mono (by simp; omega) (Nat.le_refl _), by omega, by omega, by omega, rfl, wrap_succ hlt (by omega), xrR_self⟩
  · exact ⟨m, hm.mono (by omega) (Nat.le_refl _), by omega, by omega, rfl, xrR_self⟩)
theorem k_l7Some : SoundC Try.prog K_l7Some.1 K_l7Some.2 := k_l7Some0 k_l7Any
end Cg

/-
  The codes' contracts: drawn terms, and the law that functions are functional. No condition.
-/
set_option linter.unusedVariables false
set_option linter.unusedSimpArgs false
set_option maxRecDepth 100000
namespace Cg
open Go Go.Proofs Pl
theorem copy_push {ks : List Tm} {k : Nat} (hk : k ≤ ks.length) (hlt : k < ks.length) : IsO (AObj.arr (min k ks.length + 1) 2 (joinC (min k ks.length) (cT (List.take k ks)) (rowsCell [[st (Tree.val (ks.getD k dT)), terms (Tree.kids (ks.getD k dT))]]))) (arT (List.take (k + 1) ks)) := by
  have hlen : (ks.take k).length = k := by simp; omega
  rw [Nat.min_eq_left hk, Pl.take_succ_getD dT hlt]
  have := IsO_join (l := ks.take k) (m := [ks.getD k dT]) (d := dT) EncN.eT (IsR_row EncN.eT (Is_rowK rfl (Is_terms_kidsT.2 rfl)))
  rw [hlen] at this
  exact this
theorem namesT : ∀ y ∈ [(⟨#[]⟩ : ByteArray), ⟨#[65]⟩, ⟨#[97, 98, 99]⟩, ⟨#[102]⟩], y.size ≤ 10 := by decide
theorem LitR.rds {α : Type} {k : Nat} {e : α → Nat → AV} {d : α} {rows : List (List AV)} {l : List α} (h : LitR k e d rows l) : Rds k e d rows.length (rowsCell rows) l := ⟨h.1, fun i hi j hj => h.2 i hi j hj⟩
theorem CB_ge (n : Nat) : 12 ≤ CB n := by cases n <;> (unfold CB; omega)
theorem k_l4Copy : ∀ n, SoundC Try.prog (K_l4Copy n).1 (K_l4Copy n).2
  | 0 => ⟨by exact callable_of (by kernel_rfl), fun x hx => absurd hx.2 (Nat.not_lt_zero _)⟩
  | n + 1 => sound_of hm (CtxOK.nil.and (K := K_l4Copy n) (k_l4Copy n)) (fun (x : TP) => A_l4Copy x.1 x.2) (by kernel_rfl) fun (x : TP) hl => (by
    obtain ⟨v, ks⟩ := x
    obtain ⟨h1, h2⟩ : SmT (.mk v ks) ∧ manyL ks < n + 1 := hl
    rw [← vc_l4Copy n v ks]
    simp [-List.getD_eq_getElem?_getD, -List.mem_cons, -Bool.forall_bool, -Bool.exists_bool, and_assoc, peta, tl_inj, ex_1, ex_2, ex_3, ex_4, ex_5, ex_6, ex_7, ex_8, ex_9, ey_2, ey_3, ey_4, ey_5, ey_6, ey_7, ey_8, ey_9]
    refine ⟨⟨0, by omega, rfl, rfl, .inl rfl⟩, fun k hk => ⟨fun hlt => ?_, fun hge => List.take_of_length_le hge⟩⟩
    have ht := getD_mem dT hlt
    have c1 := costT_mem ht
    have c2 := costT_eq (.mk v ks)
    simp only [Tree.val_mk, Tree.kids_mk] at c2
    have m1 := many_mem ht
    have m2 := (ks.getD k dT).many_eq
    exact ⟨hlt, by omega, by omega, by omega, k + 1, hlt, by omega, wrap_succ hlt (by omega), by omega, copy_push hk hlt⟩)
theorem k_lCopy : SoundC Try.prog K_lCopy.1 K_lCopy.2 := SoundC.famI (fun (x : TP) => manyL x.2) k_l4Copy
theorem k_l4CopyO : SoundC Try.prog K_l4CopyO.1 K_l4CopyO.2 := sound_of hm (CtxOK.nil.and k_lCopy) (fun (x : TP) => A_l4CopyO x.1 x.2) (by kernel_rfl) fun (x : TP) hl => (by
  obtain ⟨v, ks⟩ := x
  replace hl : SmT (.mk v ks) := hl
  rw [← vc_l4CopyO v ks]
  simp [-List.getD_eq_getElem?_getD, -List.mem_cons, -Bool.forall_bool, -Bool.exists_bool, and_assoc, peta, tl_inj, ex_1, ex_2, ex_3, ex_4, ex_5, ex_6, ex_7, ex_8, ex_9, ey_2, ey_3, ey_4, ey_5, ey_6, ey_7, ey_8, ey_9]
  refine ⟨⟨0, by omega, rfl, rfl, .inl rfl⟩, fun k hk => ⟨fun hlt => ?_, fun hge => List.take_of_length_le hge⟩⟩
  have ht := getD_mem dT hlt
  have c1 := costT_mem ht
  have c2 := costT_eq (.mk v ks)
  simp only [Tree.val_mk, Tree.kids_mk] at c2
  exact ⟨hlt, by omega, by omega, k + 1, hlt, by omega, wrap_succ hlt (by omega), by omega, copy_push hk hlt⟩)
theorem k_l4Any : ∀ n, SoundC Try.prog (K_l4Any n).1 (K_l4Any n).2
  | 0 => ⟨by exact callable_of (by kernel_rfl), fun x hx => absurd hx.2 (Nat.not_lt_zero _)⟩
  | n + 1 => sound_of hm ((CtxOK.nil.and (K := K_l4Any n) (k_l4Any n)).and k_pick) (fun ((b, p, s, u, d) : AX) => A_l4Any b p s u d) (by kernel_rfl) fun ((b, p, s, u, d) : AX) hl => (by
    obtain ⟨⟨h1, h1', h2, h3⟩, h4⟩ : (Rd 137438953472 b p ∧ p + CB d.toNat ≤ 137438953472 ∧ SgB 5 2 s ∧ d ≤ 4) ∧ d.toNat < n + 1 := hl
    rw [← vc_l4Any n b p s u d]
    simp [-List.getD_eq_getElem?_getD, -List.mem_cons, -Bool.forall_bool, -Bool.exists_bool, and_assoc, peta, tl_inj, ex_1, ex_2, ex_3, ex_4, ex_5, ex_6, ex_7, ex_8, ex_9, ey_2, ey_3, ey_4, ey_5, ey_6, ey_7, ey_8, ey_9]
    have g3 := h1.2.2.1
    have g4 := h1.2.2.2
    obtain ⟨s1, s2⟩ : s.length ≤ 5 ∧ ∀ x ∈ s, x.1.size ≤ 10 ∧ x.2.1.length ≤ 2 := id h2
    have hC := CB_ge d.toNat
    refine ⟨⟨0, by omega, [], Nat.le_refl _, fun x hx => (by cases hx), rfl, rfl, rfl, rfl⟩, fun i ws hi hw hwd => ⟨fun hlt => ?_, fun hge => ⟨fun hnil => ?_, fun hne => ?_⟩⟩⟩
    · have h5 := s2 _ (getD_mem dY hlt)
      have keep : ∃ a_8, a_8 ≤ s.length ∧ ∃ x : List Sym, x.length ≤ a_8 ∧ WdB d x ∧ s.length - a_8 < s.length - i ∧ ws.length = x.length ∧ IntKind.i64.wrap ((i : Int) + 1) = (a_8 : Int) ∧ (x = [] ∨ ws = x) :=
        ⟨i + 1, by omega, ws, by omega, hwd, by omega, rfl, wrap_succ hlt (by omega), .inr rfl⟩
      have push : (d ≤ 1 → (s.getD i dY).2.1 = []) → (ws.length + 1) * 48 ≤ 70368744177664 ∧ ∃ a_8, a_8 ≤ s.length ∧ ∃ x : List Sym, x.length ≤ a_8 ∧ WdB d x ∧ s.length - a_8 < s.length - i ∧ ws.length + 1 = x.length ∧ IntKind.i64.wrap ((i : Int) + 1) = (a_8 : Int) ∧
          IsO (AObj.arr (ws.length + 1) 3 (joinC ws.length (cY ws) (rowsCell [[st (s.getD i dY).fst, ints (s.getD i dY).snd.fst, i64 (s.getD i dY).snd.snd]]))) (arY x) := fun h6 =>
        ⟨by omega, i + 1, by omega, ws ++ [s.getD i dY], by simp; omega, mem_push_imp hwd ⟨h5.1, h5.2, h6⟩, by omega, by simp, wrap_succ hlt (by omega), IsO_join EncN.eY (IsR_row EncN.eY (Is_rowY (Is_ints.2 rfl)))⟩
      exact ⟨hlt, fun he => ⟨fun hd => ⟨hlt, push fun h => absurd h (by omega)⟩, fun hd => ⟨hlt, fun ha => ⟨hlt, push fun _ => ha⟩, fun _ => keep⟩⟩, fun _ => keep⟩
    · refine ⟨⟨#[113]⟩, [], ?_, by omega, rfl, rfl⟩
      show costT (.mk ⟨#[113]⟩ []) ≤ _
      rw [costT_eq]
      simp only [Tree.val_mk, Tree.kids_mk, costTs, List.length_nil]
      have : (⟨#[113]⟩ : ByteArray).size = 1 := rfl
      omega
    · refine ⟨h1.to (by omega) (by omega), fun y hy _ => ?_⟩
      have hw0 : 0 < ws.length := List.length_pos_iff.2 hne
      obtain ⟨y1, y2⟩ := hy (by omega)
      have hyl : y.toNat < ws.length := by omega
      have hwy := hwd _ (getD_mem dY hyl)
      refine ⟨y1, y2, hyl, ⟨(ws.getD y.toNat dY).1, (ws.getD y.toNat dY).2.1, (ws.getD y.toNat dY).2.2, fun x hx => by rw [List.mem_singleton.1 hx]; exact hwy, 0, Nat.zero_le _, [], rfl, Nat.zero_le _, by omega, by simp, rfl, rfl, rfl, rfl, rfl, rfl⟩, fun nm args so j kids q hw1 hj hkl hc q1 q2 => ⟨fun hlt => ?_, fun hge => ?_⟩⟩
      · obtain ⟨a1, a2, a3⟩ := hw1 _ List.mem_cons_self
        dsimp only at a1 a2 a3
        have hd : 2 ≤ d := Classical.byContradiction fun h => by
          have := a3 (by omega)
          rw [this] at hlt; exact absurd hlt (Nat.not_lt_zero _)
        have hdn : d.toNat = (d.toNat - 1) + 1 := by omega
        have hCe : CB d.toNat = 12 + 2 * CB (d.toNat - 1) := by rw [hdn]; rfl
        have hw2 : IntKind.i64.wrap (d - 1) = d - 1 := wrap_small (by omega) (by omega)
        have hdt : (d - 1).toNat = d.toNat - 1 := by omega
        rw [hw2, hdt]
        generalize hCC : CB (d.toNat - 1) = C at *
        have hj2 : (j : Int) * C ≤ C := by
          have : j = 0 ∨ j = 1 := by omega
          rcases this with rfl | rfl <;> simp <;> omega
        have hj3 : ((j + 1 : Nat) : Int) * C = j * C + C := by push_cast; rw [Int.add_mul, Int.one_mul]
        have hcn : (j + 1) * C = j * C + C := Nat.succ_mul j C
        refine ⟨hlt, h1.to (by omega) (by omega), by omega, h2, by omega, by omega, fun nm2 k2 q' ht q3 q4 => ⟨by omega, nm, args, so, hw1, j + 1, hlt, kids ++ [.mk nm2 k2], by simp; omega, ?_, by omega, by rw [hj3]; omega, by omega, wrap_succ hlt (by omega), rfl, rfl, rfl, rfl, by simp, IsO_join EncN.eT (IsR_row EncN.eT (Is_rowT (Is_terms.2 rfl)))⟩⟩
        have ht' : costT (.mk nm2 k2) ≤ C := ht
        rw [costTs_snoc, hcn]
        omega
      · obtain ⟨a1, a2, a3⟩ := hw1 _ List.mem_cons_self
        dsimp only at a1 a2 a3
        have c2 := costT_eq (.mk nm kids)
        simp only [Tree.val_mk, Tree.kids_mk] at c2
        by_cases hd : d ≤ 1
        · have h0 : j = 0 := by have := a3 hd; rw [this] at hj; simpa using hj
          subst h0
          refine ⟨nm, kids, ?_, q1, ?_, rfl, rfl, .inr rfl⟩
          · show costT (.mk nm kids) ≤ _
            simp at hc
            omega
          · simp at q2
            omega
        · have hdn : d.toNat = (d.toNat - 1) + 1 := by omega
          have hCe : CB d.toNat = 12 + 2 * CB (d.toNat - 1) := by rw [hdn]; rfl
          have hj2 : j * CB (d.toNat - 1) ≤ 2 * CB (d.toNat - 1) := Nat.mul_le_mul_right _ (by omega)
          have hj3 : (j : Int) * (CB (d.toNat - 1) : Int) = ((j * CB (d.toNat - 1) : Nat) : Int) := by push_cast; rfl
          rw [hj3] at q2
          generalize hm : j * CB (d.toNat - 1) = M at *
          refine ⟨nm, kids, ?_, q1, ?_, rfl, rfl, .inr rfl⟩
          · show costT (.mk nm kids) ≤ _
            omega
          · omega)
theorem k_lAny : SoundC Try.prog K_lAny.1 K_lAny.2 := SoundC.famE (fun (x : AX) => x.2.2.2.2.toNat) k_l4Any
set_option maxHeartbeats 8000000 in
theorem g_l4Some (b : List Int) (p : Int) (s : Pl.Sig) (h1 : Rd 68719476736 b p) (h2 : SgB 5 2 s) : GoalW Try.prog [K_pick, K_num, K_of, K_lAny, K_l4CopyO] ([]) K_l4Some.1 K_l4Some.2 (b, p, s) := GoalW.of (vc_l4Some b p s) (by
  simp (maxSteps := 2000000) [-List.getD_eq_getElem?_getD, -List.mem_cons, -Bool.forall_bool, -Bool.exists_bool, and_assoc, peta, tl_inj, ex_1, ex_2, ex_3, ex_4, ex_5, ex_6, ex_7, ex_8, ex_9, ey_2, ey_3, ey_4, ey_5, ey_6, ey_7, ey_8, ey_9]
  have g3 := h1.2.2.1
  have g4 := h1.2.2.2
  refine ⟨h1.to (by omega) (by omega), fun y _ _ => ⟨h1.to (by omega) (by omega), fun d hd => ?_⟩⟩
  have hC : CB d.toNat ≤ 372 ∧ d ≤ 4 := by
    simp at hd
    rcases hd with rfl | rfl | rfl | rfl <;> exact ⟨by decide, by decide⟩
  refine ⟨h1.to (by omega) (by omega), by omega, h2, hC.2, fun a ks q ht q1 q2 => ⟨h1.to (by omega) (by omega), fun z _ _ => ?_⟩⟩
  have ht' : costT (.mk a ks) ≤ CB d.toNat := ht
  have c2 := costT_eq (.mk a ks)
  simp only [Tree.val_mk, Tree.kids_mk] at c2
  have c3 : ∀ (v : ByteArray) (l : List Tm), costT (.mk v l) = v.size + l.length + costTs l := fun v l => by
    have := costT_eq (.mk v l)
    simpa only [Tree.val_mk, Tree.kids_mk] using this
  have h0j : LitR 2 eT dT [[st a, terms ks]] [Tree.mk a ks] := LitR.nil.cons (Is_rowT (Is_terms.2 rfl))
  have h1j := (Rds.cel (d := dT) EncN.eT ks).join h0j.rds
  have h2j := (Rds.cel (d := dT) EncN.eT ks).join (h0j.cons (r := [st a, terms ks]) (v := Tree.mk a ks) (Is_rowT (Is_terms.2 rfl))).rds
  refine ⟨fun _ => ⟨h1.to (by omega) (by omega), fun nm hnm => ⟨?_, by omega, by omega⟩⟩, fun _ => ⟨fun _ => ?_, fun _ => ⟨fun _ => ?_, fun _ => ⟨?_, by omega, by omega⟩⟩⟩⟩
  · have := namesT nm hnm
    show costT (.mk nm ks) ≤ 1500
    rw [c3]; omega
  · refine ⟨a, ks, by omega, rfl, rfl, .inr rfl, by omega, by omega, a, ks ++ [Tree.mk a ks], ?_, by omega, by omega, rfl, h1j.is⟩
    show costT (.mk a (ks ++ [.mk a ks])) ≤ 1500
    rw [c3, costTs_snoc, List.length_append, List.length_singleton]; omega
  · refine ⟨a, ks, by omega, rfl, rfl, .inr rfl, a, ks, by omega, rfl, rfl, .inr rfl, by omega, by omega, a, ks ++ [Tree.mk a ks, Tree.mk a ks], ?_, by omega, by omega, rfl, h2j.is⟩
    show costT (.mk a (ks ++ [.mk a ks, .mk a ks])) ≤ 1500
    have e : ks ++ [.mk a ks, .mk a ks] = (ks ++ [.mk a ks]) ++ [.mk a ks] := by simp
    rw [e, c3, costTs_snoc, costTs_snoc, List.length_append, List.length_append, List.length_singleton]; omega
  · show costT (.mk a ks) ≤ 1500
    omega)
theorem k_l4Some : SoundC Try.prog K_l4Some.1 K_l4Some.2 := sound_ofW hm (((((CtxOK.nil.and k_l4CopyO).and k_lAny).and k_of).and k_num).and k_pick) (fun _ => []) (by kernel_rfl) fun ((b, p, s) : List Int × Int × Pl.Sig) hb => g_l4Some b p s hb.1 hb.2
theorem k_DrawModelTerm : SoundC Try.prog K_DrawModelTerm.1 K_DrawModelTerm.2 := sound_of hm ((((CtxOK.nil.and k_l4Some).and k_l7Some).and k_l4Sig).and k_l16Open) (fun _ => []) (by kernel_rfl) fun (b : List Int) hb => (by
  obtain ⟨h1, h2⟩ : Sz b ∧ Byt b := hb
  rw [← vc_DrawModelTerm b]
  simp [-List.getD_eq_getElem?_getD, -List.mem_cons, -Bool.forall_bool, -Bool.exists_bool, and_assoc, peta, tl_inj, ex_1, ex_2, ex_3, ex_4, ex_5, ex_6, ex_7, ex_8, ex_9, ey_2, ey_3, ey_4, ey_5, ey_6, ey_7, ey_8, ey_9]
  exact ⟨by omega, h2, fun y hr => ⟨hr.to (by omega) (by omega), fun s hs => ⟨hr.to (by omega) (by omega), hs, fun m q hm q1 q2 => ⟨hr.to (by omega) (by omega), hs, fun a ks q' ht _ _ => ⟨hs, hm, ht⟩⟩⟩⟩⟩)
theorem Is_rowsI {α : Type} {k : Nat} {e : α → Nat → AV} {d : α} (hk : 0 < k) {v : α} {m : List α} {r : List AV} (h : ∀ v', (∀ j, j < k → Is (r.getD j .any) (e v' j)) ↔ v = v') :
    Is (.lit 1 k (rowsCell [r])) (.sl m.length k fun i j => e (m.getD i d) j) ↔ [v] = m := by
  constructor
  · intro h'
    rw [Is] at h'
    obtain ⟨h1, h2⟩ := h'
    match m, h1 with
    | [x], _ =>
      congr 1
      refine (h x).1 fun j hj => ?_
      rcases h2 with h2 | ⟨_, h2⟩
      · omega
      · exact h2 0 (by omega) j hj
  · rintro rfl
    refine Is_lit_of rfl fun i hi j hj => ?_
    have : i = 0 := by simpa using hi
    subst this
    exact (h v).2 rfl j hj
@[simp] theorem terms_lit1 {a : ByteArray} {ks m : List Tm} : Is (.lit 1 2 (rowsCell [[st a, terms ks]])) (terms m) ↔ [Tree.mk a ks] = m := Is_rowsI (e := eT) (d := dT) (by decide) fun v' => by
  constructor
  · intro h
    have h0 : Is (st a) (st v'.val) := h 0 (by decide)
    have h1 : Is (terms ks) (kidsT v') := h 1 (by decide)
    exact Tree.ext (Is_st.1 h0) (Is_terms_kidsT.1 h1)
  · rintro rfl j hj
    exact Is_rowT (Is_terms.2 rfl) j hj
@[simp] theorem terms_lit0 {a : ByteArray} {q : Nat} {c : Nat → Nat → AV} {m : List Tm} : Is (.lit 1 2 (rowsCell [[st a, .lit 0 q c]])) (terms m) ↔ [Tree.mk a []] = m := Is_rowsI (e := eT) (d := dT) (by decide) fun v' => by
  constructor
  · intro h
    have h0 : Is (st a) (st v'.val) := h 0 (by decide)
    have h1 : Is (.lit 0 q c) (kidsT v') := h 1 (by decide)
    unfold kidsT at h1
    rw [Is] at h1
    exact Tree.ext (Is_st.1 h0) (List.eq_nil_of_length_eq_zero h1.1.symm).symm
  · rintro rfl j hj
    exact Is_rowT (terms_nil.2 rfl) j hj
theorem mt_parts {s : Pl.Sig} {m : Mdl} {t : Tm} (h : (modelTerm s m t).2 = true) : (termSort s t).2 = true ∧ modelOk s m = true ∧ (modelTerm s m t).1 = valT m t := by
  unfold modelTerm at h ⊢
  split at h
  · cases h
  · rename_i h1
    rw [if_neg h1]
    simp only [Bool.or_eq_true, Bool.not_eq_true', not_or, Bool.not_eq_false] at h1
    exact ⟨h1.1, h1.2, rfl⟩
theorem model_parts {s : Pl.Sig} {m : Mdl} (h : modelOk s m = true) : mL none m = true ∧ ∀ r ∈ m, rowFits s r = true := by
  simp only [modelOk, mRight, Bool.and_eq_true, List.all_eq_true] at h
  exact ⟨h.1.2.1, h.2⟩
theorem look_fit {s : Pl.Sig} {nm : ByteArray} {args : List Rt} (hz : (symOf s nm).2.2 = 0) : ∀ {m : Mdl}, (∀ r ∈ m, rowFits s r = true) → (look m nm args).2 = 1
  | [], _ => rfl
  | r :: m, h => by
    rw [look_cons]
    split
    · rename_i h1
      have h2 := h r List.mem_cons_self
      simp only [rowFits, fit, suit, Bool.and_eq_true, Bool.or_eq_true, decide_eq_true_eq] at h2
      rw [h1.1, hz] at h2
      rcases h2.1.2.2 with h3 | h3
      · cases h3
      · exact h3
    · exact look_fit hz fun r hr => h r (List.mem_cons_of_mem _ hr)
theorem thing_one {s : Pl.Sig} {m : Mdl} {v : ByteArray} {ks : List Tm} (h : (modelTerm s m (.mk v ks)).2 = true) (hz : (termSort s (.mk v ks)).1 = 0) : (valT m (.mk v ks)).2 = 1 := by
  obtain ⟨h1, h2, _⟩ := mt_parts h
  rw [valT_mk]
  refine look_fit ?_ (model_parts h2).2
  unfold termSort at h1 hz
  split at h1
  · rename_i h3
    rw [if_pos h3] at hz
    dsimp only at h1 hz
    unfold sortT at h1 hz
    unfold symOf
    cases hf : find s v with
    | none => rw [hf] at h1; cases h1
    | some x =>
      rw [hf] at h1 hz
      dsimp only at h1 hz
      split at h1
      · cases h1
      · rename_i h4
        rw [if_neg h4] at hz
        split at h1
        · rename_i h5
          rw [if_pos h5] at hz
          exact hz
        · cases h1
  · cases h1
theorem val_same {m : Mdl} {f : ByteArray} {t u : Tm} (h : valT m t = valT m u) : valT m (.mk f [t]) = valT m (.mk f [u]) := by
  rw [valT_mk, valT_mk]
  simp only [valL, h]
theorem k_yModelTerm : SoundC Try.prog K_yModelTerm.1 K_yModelTerm.2 := sound_of hm (((((CtxOK.nil.and k_iRatOk).and k_iTermSort).and k_sModelTerm).and k_iModelTerm).and k_DrawModelTerm) (fun _ => A_yModelTerm) (by kernel_rfl) fun (b : List Int) hb => (by
  replace hb : Byt b := hb
  rw [← vc_yModelTerm b]
  simp [-List.getD_eq_getElem?_getD, -List.mem_cons, -Bool.forall_bool, -Bool.exists_bool, and_assoc, peta, tl_inj, ex_1, ex_2, ex_3, ex_4, ex_5, ex_6, ex_7, ex_8, ex_9, ey_2, ey_3, ey_4, ey_5, ey_6, ey_7, ey_8, ey_9]
  refine fun l1 => ⟨by omega, hb, fun s m nm ks hs hm ht => ?_⟩
  have e1 := sg_sm hs
  have e2 := md_sm hm
  have e3 : costT (.mk nm ks) ≤ 1048576 := by have : costT (.mk nm ks) ≤ 1500 := ht; omega
  refine ⟨e1, e2, e3, e1, e2, e3, fun hok => ?_⟩
  obtain ⟨o1, o2, o3⟩ := mt_parts hok
  have o4 := valT_ok (model_parts o2).1 (.mk nm ks)
  have o5 := thing_one hok
  rw [o3]
  refine ⟨e1, e3, o1, fun _ => ⟨o4, fun _ => ⟨fun hz => ⟨o5 hz, fun _ => ⟨⟨s, hs, m, hm, nm, ks, ht, 0, by omega, hok, rfl, rfl, rfl, rfl, rfl, rfl, rfl, rfl⟩, ?_⟩⟩, fun hz => ⟨⟨s, hs, m, hm, nm, ks, ht, 0, by omega, hok, rfl, rfl, rfl, rfl, rfl, rfl, rfl, rfl⟩, ?_⟩⟩⟩⟩
  all_goals
    clear hok o1 o2 o3 o4 o5 e1 e2 e3 hz hs hm ht
    intro s m nm ks i hs hm ht hi hok hlt
    have e1 := sg_sm hs
    have e2 := md_sm hm
    have e3 : costT (.mk nm ks) ≤ 1500 := ht
    have s1 := hs.1
    refine ⟨hlt, fun _ => ⟨s, hs, m, hm, nm, ks, ht, i + 1, hlt, hok, by omega, rfl, wrap_succ hlt (by omega), rfl, rfl, rfl, rfl, rfl, rfl⟩, fun hl1 => ⟨hlt, by omega, fun _ => ⟨s, hs, m, hm, nm, ks, ht, i + 1, hlt, hok, by omega, rfl, wrap_succ hlt (by omega), rfl, rfl, rfl, rfl, rfl, rfl⟩, fun hsort => ⟨⟨0, by omega, rfl⟩, fun k hk => ⟨fun hlt2 => ?_, fun hge => ⟨s, hs, m, hm, nm, ks, ht, i + 1, hlt, hok, by omega, rfl, wrap_succ hlt (by omega), rfl, rfl, rfl, rfl, rfl, rfl⟩⟩⟩⟩⟩
    have next : ∃ x', x' ≤ s.length ∧ s.length - x' < s.length - k ∧ IntKind.i64.wrap ((k : Int) + 1) = (x' : Int) := ⟨k + 1, hlt2, by omega, wrap_succ hlt2 (by omega)⟩
    have w1 := hs.2 _ (getD_mem dY hlt)
    have w2 := hs.2 _ (getD_mem dY hlt2)
    have c0 : costT (Tree.mk (s.getD k dY).fst []) ≤ 1048576 := by
      rw [costT_eq]; simp only [Tree.val_mk, Tree.kids_mk, costTs, List.length_nil]; omega
    have c1 : costT (Tree.mk (s.getD i dY).fst [Tree.mk nm ks]) ≤ 1048576 := by
      rw [costT_eq]; simp only [Tree.val_mk, Tree.kids_mk, costTs, List.length_cons, List.length_nil]; omega
    have c2 : costT (Tree.mk (s.getD i dY).fst [Tree.mk (s.getD k dY).fst []]) ≤ 1048576 := by
      have c0' : costT (Tree.mk (s.getD k dY).fst []) ≤ 10 := by
        rw [costT_eq]; simp only [Tree.val_mk, Tree.kids_mk, costTs, List.length_nil]; omega
      rw [costT_eq]; simp only [Tree.val_mk, Tree.kids_mk, costTs, List.length_cons, List.length_nil]; omega
    refine ⟨hlt2, e1, e2, c0, fun _ => next, fun hok2 => ⟨hlt2, fun _ => next, fun hso => ⟨fun _ => next, fun hv1 hv2 => ?_⟩⟩⟩
    have hv : valT m (Tree.mk nm ks) = valT m (Tree.mk (s.getD k dY).fst []) := by
      rw [(mt_parts hok2).2.2] at hv1 hv2
      exact Prod.ext hv1.symm hv2.symm
    have eqv : (modelTerm s m (Tree.mk (s.getD i dY).fst [Tree.mk nm ks])).2 = true → (modelTerm s m (Tree.mk (s.getD i dY).fst [Tree.mk (s.getD k dY).fst []])).2 = true →
        (modelTerm s m (Tree.mk (s.getD i dY).fst [Tree.mk nm ks])).1 = (modelTerm s m (Tree.mk (s.getD i dY).fst [Tree.mk (s.getD k dY).fst []])).1 := fun a b => by
      rw [(mt_parts a).2.2, (mt_parts b).2.2]
      exact val_same hv
    repeat' first
      | exact hlt
      | exact hlt2
      | exact e1
      | exact e2
      | exact c1
      | exact c2
      | exact next
      | exact congrArg Prod.fst (eqv (by assumption) (by assumption))
      | exact congrArg Prod.snd (eqv (by assumption) (by assumption))
      | apply And.intro
      | intro _
)
end Cg
