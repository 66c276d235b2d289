/-
  The codes' contracts: words. No condition.
-/
import Derived.Test.YtjhiaobcbbnhnaaGreatSigVc
import Derived.Test.YtjhiaobcbbnhnaaGreatRowsOk
set_option linter.unusedVariables false
set_option linter.unusedSimpArgs false
set_option maxRecDepth 100000
namespace Pl
open Go Cg
theorem bs_len (s : ByteArray) : (bs s).length = s.size := rfl
theorem data_getD (s : ByteArray) (k : Nat) : s.data.getD k 0 = (bs s).getD k 0 := by
  unfold bs
  rw [Array.getD_eq_getD_getElem?, List.getD_eq_getElem?_getD, Array.getElem?_toList]
theorem data_getE (s : ByteArray) (k : Nat) : s.data[k]?.getD 0 = (bs s).getD k 0 := by
  rw [← data_getD, Array.getD_eq_getD_getElem?]
theorem sumN_take {α : Type} (f : α → Nat) (d : α) {l : List α} {k : Nat} (h : k < l.length) : sumN f (l.take (k + 1)) = sumN f (l.take k) + f (l.getD k d) := by
  rw [List.take_succ_eq_append_getElem h]
  have : ∀ (m : List α) (x : α), sumN f (m ++ [x]) = sumN f m + f x := by
    intro m x
    induction m with
    | nil => simp [sumN]
    | cons y r ih => simp only [List.cons_append, sumN, ih]; omega
  rw [this]; simp [h]
theorem sumN_take_le {α : Type} (f : α → Nat) (l : List α) (k : Nat) : sumN f (l.take k) ≤ sumN f l := by
  induction l generalizing k with
  | nil => simp
  | cons x r ih =>
    cases k with
    | zero => simp [sumN]
    | succ k => simp only [List.take_succ_cons, sumN]; have := ih k; omega
theorem sumN_mem {α : Type} (f : α → Nat) {x : α} : ∀ {l : List α}, x ∈ l → f x ≤ sumN f l
  | y :: r, h => by
    simp only [sumN]
    cases List.mem_cons.1 h with
    | inl e => subst e; omega
    | inr e => have := sumN_mem f e; omega
theorem lim_nonneg {x : Int} (h : 0 ≤ lim x) : 0 ≤ x ∧ lim x = x := by
  unfold lim at h ⊢
  split at h
  · omega
  · rename_i h1; rw [if_neg h1]; exact ⟨by omega, rfl⟩
theorem lim_neg {x : Int} (h : lim x < 0) : x < 0 ∧ lim x = -1 := by
  unfold lim at h ⊢
  split at h
  · rename_i h1; rw [if_pos h1]; exact ⟨h1, rfl⟩
  · omega
theorem lim_of_neg {x : Int} (h : x < 0) : lim x = -1 := if_pos h
theorem lim_of_nonneg {x : Int} (h : 0 ≤ x) : lim x = x := if_neg (by omega)
end Pl
namespace Cg
open Go Go.Proofs Pl

theorem k_szSym : SoundC Tryz.prog K_szSym.1 K_szSym.2 := sound_of hm (CtxOK.nil.and k_szIntS) (fun _ => []) (by kernel_rfl) fun (x, k) hl => cast (vc_szSym x k) (by
  obtain ⟨⟨h1, h2⟩, h3, h4⟩ : MlY x ∧ Fu k := hl
  obtain ⟨nm, args, srt⟩ := x
  simp only at h1 h2
  rw [wrap_small (x := k - ((nm, args, srt) : Sym).1.size) (by simp only; omega) (by simp only; omega)]
  simp [-List.getD_eq_getElem?_getD, -List.mem_cons, -Bool.forall_bool, -Bool.exists_bool, and_assoc, peta, tl_inj, ex_1, ex_2, ex_3, ex_4, ex_5, ex_6, ex_7, ex_8, ex_9, ey_2, ey_3, ey_4, ey_5, ey_6, ey_7, ey_8, ey_9]
  have e : k - (costY (nm, args, srt) : Int) = k - nm.size - args.length := by simp [costY]; omega
  rw [e]
  refine ⟨fun h => (lim_of_neg (by omega)).symm, fun h => ⟨h2, h, by omega, fun h5 => ?_, fun h5 => ?_⟩⟩
  · exact (lim_neg h5).2.symm
  · rfl)

theorem k_szSymS : SoundC Tryz.prog K_szSymS.1 K_szSymS.2 := sound_of hm (CtxOK.nil.and k_szSym) (fun (s, k) => A_szSymS s k) (by kernel_rfl) fun (s, k) hl => cast (vc_szSymS s k) (by
  obtain ⟨⟨h1, h2⟩, h3, h4⟩ : MlG s ∧ Fu k := hl
  rw [wrap_small (by omega) (by omega)]
  simp [-List.getD_eq_getElem?_getD, -List.mem_cons, -Bool.forall_bool, -Bool.exists_bool, and_assoc, peta, tl_inj, ex_1, ex_2, ex_3, ex_4, ex_5, ex_6, ex_7, ex_8, ex_9, ey_2, ey_3, ey_4, ey_5, ey_6, ey_7, ey_8, ey_9]
  have hc : (costG s : Int) = s.length + sumN costY s := by simp [costG]
  refine ⟨fun h => (lim_of_neg (by omega)).symm, fun h => ⟨⟨0, by simp, by simp [sumN]; omega, by simp [sumN], rfl⟩, fun i hi hk => ⟨fun hlt => ?_, fun hge => ?_⟩⟩⟩
  · have hx := h2 _ (getD_mem dY hlt)
    have ht := sumN_take costY dY hlt
    have hle := sumN_take_le costY s (i + 1)
    refine ⟨hlt, hx.1, hx.2, hk, by omega, fun h5 => ?_, fun h5 => ?_⟩
    · exact (lim_of_neg (by have := (lim_neg h5).1; omega)).symm
    · obtain ⟨h6, h7⟩ := lim_nonneg h5
      exact ⟨i + 1, hlt, by omega, by omega, by rw [h7, ht]; omega, wrap_small (by omega) (by omega)⟩
  · rw [List.take_of_length_le hge, hc]
    exact (lim_of_nonneg (by rw [List.take_of_length_le hge] at hk; omega)).symm.trans (by congr 1; omega))

theorem k_szSig : SoundC Tryz.prog K_szSig.1 K_szSig.2 := sound_of hm (CtxOK.nil.and k_szSymS) (fun _ => []) (by kernel_rfl) fun (s, k) hl => cast (vc_szSig s k) (by
  obtain ⟨⟨h1, h2⟩, h3, h4⟩ : MlG s ∧ Fu k := hl
  simp [-List.getD_eq_getElem?_getD, -List.mem_cons, -Bool.forall_bool, -Bool.exists_bool, and_assoc, peta, tl_inj, ex_1, ex_2, ex_3, ex_4, ex_5, ex_6, ex_7, ex_8, ex_9, ey_2, ey_3, ey_4, ey_5, ey_6, ey_7, ey_8, ey_9]
  exact ⟨h1, fun a b c h => h2 _ h, h3, h4, fun h => (lim_neg h).2.symm⟩)

theorem k_toSym : SoundC Tryz.prog K_toSym.1 K_toSym.2 := sound_of hm (CtxOK.nil.and k_toIntS) (fun _ => []) (by kernel_rfl) fun (x : Sym) hl => cast (vc_toSym x) (by
  replace hl : Sz x.2.1 := hl
  simp [-List.getD_eq_getElem?_getD, -List.mem_cons, -Bool.forall_bool, -Bool.exists_bool, and_assoc, peta, tl_inj, ex_1, ex_2, ex_3, ex_4, ex_5, ex_6, ex_7, ex_8, ex_9, ey_2, ey_3, ey_4, ey_5, ey_6, ey_7, ey_8, ey_9]
  exact hl)

theorem SmG.mem {s : Sig} (h : SmG s) {x : Sym} (hx : x ∈ s) : x.1.size ≤ 1048576 ∧ x.2.1.length ≤ 1048576 := by
  have h1 : s.length + sumN costY s ≤ 1048576 := h
  have h2 := sumN_mem costY hx
  have h3 : costY x = x.1.size + x.2.1.length := rfl
  omega
theorem SmG.len {s : Sig} (h : SmG s) : s.length ≤ 1048576 := by
  have h1 : s.length + sumN costY s ≤ 1048576 := h
  omega

theorem k_toSymS : SoundC Tryz.prog K_toSymS.1 K_toSymS.2 := sound_of hm (CtxOK.nil.and k_toSym) A_toSymS (by kernel_rfl) fun (s : Sig) hl => cast (vc_toSymS s) (by
  replace hl : SmG s := hl
  simp [-List.getD_eq_getElem?_getD, -List.mem_cons, -Bool.forall_bool, -Bool.exists_bool, and_assoc, peta, tl_inj, ex_1, ex_2, ex_3, ex_4, ex_5, ex_6, ex_7, ex_8, ex_9, ey_2, ey_3, ey_4, ey_5, ey_6, ey_7, ey_8, ey_9]
  have h1 := hl.len
  refine ⟨by omega, by omega, ⟨0, by simp, List.replicate s.length dY, by simp, by simp, by simp, by simp, syms_make⟩, fun k b hk hb ht => ⟨fun hlt => ⟨hlt, by have := (hl.mem (getD_mem dY hlt)).2; omega, by omega, k + 1, hlt, b.set k (s.getD k dY), by simp [hb], copy_step dY hlt hb ht, by omega, by simp, wrap_small (by omega) (by omega), syms_set⟩, fun hge => copy_end hge hb ht⟩⟩)

theorem k_toSig : SoundC Tryz.prog K_toSig.1 K_toSig.2 := sound_of hm (CtxOK.nil.and k_toSymS) (fun _ => []) (by kernel_rfl) fun (s : Sig) hl => cast (vc_toSig s) (by
  replace hl : SmG s := hl
  simp [-List.getD_eq_getElem?_getD, -List.mem_cons, -Bool.forall_bool, -Bool.exists_bool, and_assoc, peta, tl_inj, ex_1, ex_2, ex_3, ex_4, ex_5, ex_6, ex_7, ex_8, ex_9, ey_2, ey_3, ey_4, ey_5, ey_6, ey_7, ey_8, ey_9]
  exact hl)

theorem k_eqSym : SoundC Tryz.prog K_eqSym.1 K_eqSym.2 := sound_of hm (CtxOK.nil.and k_eqIntS) (fun _ => []) (by kernel_rfl) fun (x, y) hl => cast (vc_eqSym x y) (by
  replace hl : Sz x.2.1 := hl
  obtain ⟨a, b, c⟩ := x
  obtain ⟨a', b', c'⟩ := y
  simp [-List.getD_eq_getElem?_getD, -List.mem_cons, -Bool.forall_bool, -Bool.exists_bool, and_assoc, peta, tl_inj, ex_1, ex_2, ex_3, ex_4, ex_5, ex_6, ex_7, ex_8, ex_9, ey_2, ey_3, ey_4, ey_5, ey_6, ey_7, ey_8, ey_9]
  simp only at hl
  grind)

theorem k_eqSymS : SoundC Tryz.prog K_eqSymS.1 K_eqSymS.2 := sound_of hm (CtxOK.nil.and k_eqSym) (fun (s, t) => A_eqSymS s t) (by kernel_rfl) fun (s, t) hl => cast (vc_eqSymS s t) (by
  replace hl : SmG s := hl
  simp [-List.getD_eq_getElem?_getD, -List.mem_cons, -Bool.forall_bool, -Bool.exists_bool, and_assoc, peta, tl_inj, ex_1, ex_2, ex_3, ex_4, ex_5, ex_6, ex_7, ex_8, ex_9, ey_2, ey_3, ey_4, ey_5, ey_6, ey_7, ey_8, ey_9]
  have h1 := hl.len
  refine ⟨fun h e => h (by rw [e]), fun h => ⟨⟨0, by simp; omega⟩, fun k hk hlm he => ⟨fun hlt => ⟨hlt, by omega, by have := (hl.mem (getD_mem dY hlt)).2; omega, (eq_step dY hlt hlm he).1, fun h => ⟨k + 1, hlt, hlm, (eq_step dY hlt hlm he).2 h, by omega, wrap_small (by omega) (by omega)⟩⟩, fun hge => ?_⟩⟩⟩
  rw [drop_end (by omega), drop_end (l := t) (by omega)] at he
  exact he.2 rfl)

theorem k_eqSig : SoundC Tryz.prog K_eqSig.1 K_eqSig.2 := sound_of hm (CtxOK.nil.and k_eqSymS) (fun _ => []) (by kernel_rfl) fun (s, t) hl => cast (vc_eqSig s t) (by
  replace hl : SmG s := hl
  simp [-List.getD_eq_getElem?_getD, -List.mem_cons, -Bool.forall_bool, -Bool.exists_bool, and_assoc, peta, tl_inj, ex_1, ex_2, ex_3, ex_4, ex_5, ex_6, ex_7, ex_8, ex_9, ey_2, ey_3, ey_4, ey_5, ey_6, ey_7, ey_8, ey_9]
  exact hl)

theorem name_step {s : ByteArray} {k : Nat} (hk : k < s.size) (he : (bs s).all lower = ((bs s).drop k).all lower) :
    ((((bs s).getD k 0).toNat : Int) < 97 → nameOk s = false) ∧ (122 < (((bs s).getD k 0).toNat : Int) → nameOk s = false) ∧ (97 ≤ (((bs s).getD k 0).toNat : Int) → (((bs s).getD k 0).toNat : Int) ≤ 122 → (bs s).all lower = ((bs s).drop (k + 1)).all lower) := by
  rw [drop_get 0 (by rw [bs_len]; exact hk), List.all_cons] at he
  have no : lower ((bs s).getD k 0) = false → nameOk s = false := fun h => by
    unfold nameOk; rw [he, h]; simp
  refine ⟨fun h => no (by simp [lower, h, -List.getD_eq_getElem?_getD]), fun h => no (by simp [lower, h, -List.getD_eq_getElem?_getD]), fun h1 h2 => ?_⟩
  have : lower ((bs s).getD k 0) = true := by
    unfold lower; rw [decide_eq_false (by omega), decide_eq_false (by omega)]; rfl
  rw [he, this, Bool.true_and]

theorem k_sNameOk : SoundC Tryz.prog K_sNameOk.1 K_sNameOk.2 := sound_of hm CtxOK.nil A_sNameOk (by kernel_rfl) fun (s : ByteArray) hl => cast (vc_sNameOk s) (by
  replace hl : s.size ≤ 1048576 := hl
  simp [-List.getD_eq_getElem?_getD, -List.mem_cons, -Bool.forall_bool, -Bool.exists_bool, and_assoc, peta, tl_inj, ex_1, ex_2, ex_3, ex_4, ex_5, ex_6, ex_7, ex_8, ex_9, ey_2, ey_3, ey_4, ey_5, ey_6, ey_7, ey_8, ey_9]
  simp only [data_getE]
  refine ⟨⟨0, by simp, by simp, rfl⟩, fun k hk he => ⟨fun hlt => ?_, fun hge => ?_⟩⟩
  · obtain ⟨h1, h2, h3⟩ := name_step hlt he
    exact ⟨hlt, h1, fun h4 => ⟨hlt, h2, fun h5 => ⟨k + 1, hlt, h3 h4 h5, by omega, wrap_small (by omega) (by omega)⟩⟩⟩
  · rw [drop_end (by rw [bs_len]; omega)] at he
    unfold nameOk
    rw [he]
    refine ⟨fun h => ?_, fun h => ?_⟩
    · rw [decide_eq_true (by omega : 1 ≤ s.size)]; simp; omega
    · rw [decide_eq_false (by omega : ¬ 1 ≤ s.size)]; rfl)

theorem k_iNameOk : SoundC Tryz.prog K_iNameOk.1 K_iNameOk.2 := sound_of hm (CtxOK.nil.and k_within) A_iNameOk (by kernel_rfl) fun (s : ByteArray) hl => cast (vc_iNameOk s) (by
  replace hl : s.size ≤ 1048576 := hl
  simp [-List.getD_eq_getElem?_getD, -List.mem_cons, -Bool.forall_bool, -Bool.exists_bool, and_assoc, peta, tl_inj, ex_1, ex_2, ex_3, ex_4, ex_5, ex_6, ex_7, ex_8, ex_9, ey_2, ey_3, ey_4, ey_5, ey_6, ey_7, ey_8, ey_9]
  simp only [data_getE]
  refine ⟨fun h => ?_, fun h => ?_⟩
  · simp only [withinI, Bool.and_eq_false_iff, decide_eq_false_iff_not] at h
    unfold nameOk
    rcases h with h | h
    · rw [decide_eq_false (by omega : ¬ 1 ≤ s.size)]; rfl
    · rw [decide_eq_false (by omega : ¬ s.size ≤ 2)]; simp
  · simp only [withinI, Bool.and_eq_true, decide_eq_true_eq] at h
    refine ⟨⟨0, by simp, by simp, rfl⟩, fun k hk he => ⟨fun hlt => ?_, fun hge => ?_⟩⟩
    · obtain ⟨h1, h2, h3⟩ := name_step hlt he
      exact ⟨hlt, h1, fun h4 => ⟨hlt, h2, fun h5 => ⟨k + 1, hlt, h3 h4 h5, by omega, wrap_small (by omega) (by omega)⟩⟩⟩
    · rw [drop_end (by rw [bs_len]; omega)] at he
      unfold nameOk
      rw [he, decide_eq_true (by omega : 1 ≤ s.size), decide_eq_true (by omega : s.size ≤ 2)]
      rfl)

theorem k_l4Sort : SoundC Tryz.prog K_l4Sort.1 K_l4Sort.2 := sound_of hm CtxOK.nil (fun _ => []) (by kernel_rfl) fun (x : Int) _ => cast (vc_l4Sort x) (by
  simp [-List.getD_eq_getElem?_getD, -List.mem_cons, -Bool.forall_bool, -Bool.exists_bool, and_assoc, peta, tl_inj, ex_1, ex_2, ex_3, ex_4, ex_5, ex_6, ex_7, ex_8, ex_9, ey_2, ey_3, ey_4, ey_5, ey_6, ey_7, ey_8, ey_9]
  exact ⟨fun h => by simp [isSort, h], fun h => by simp [isSort, h, Bool.beq_eq_decide_eq]⟩)
theorem k_isSort : SoundC Tryz.prog K_isSort.1 K_isSort.2 := sound_of hm CtxOK.nil (fun _ => []) (by kernel_rfl) fun (x : Int) _ => cast (vc_isSort x) (by
  simp [-List.getD_eq_getElem?_getD, -List.mem_cons, -Bool.forall_bool, -Bool.exists_bool, and_assoc, peta, tl_inj, ex_1, ex_2, ex_3, ex_4, ex_5, ex_6, ex_7, ex_8, ex_9, ey_2, ey_3, ey_4, ey_5, ey_6, ey_7, ey_8, ey_9]
  exact ⟨fun h => by simp [isSort, h], fun h => by simp [isSort, h, Bool.beq_eq_decide_eq]⟩)
theorem k_symok1 : SoundC Tryz.prog K_symok1.1 K_symok1.2 := sound_of hm (CtxOK.nil.and k_isSort) (fun _ => []) (by kernel_rfl) fun (x : Int) _ => cast (vc_symok1 x) (by
  simp [-List.getD_eq_getElem?_getD, -List.mem_cons, -Bool.forall_bool, -Bool.exists_bool, and_assoc, peta, tl_inj, ex_1, ex_2, ex_3, ex_4, ex_5, ex_6, ex_7, ex_8, ex_9, ey_2, ey_3, ey_4, ey_5, ey_6, ey_7, ey_8, ey_9])
theorem k_IndexSort : SoundC Tryz.prog K_IndexSort.1 K_IndexSort.2 := sound_of hm (CtxOK.nil.and k_symok1) A_IndexSort (by kernel_rfl) fun (l : List Int) hl => cast (vc_IndexSort l) (by
  replace hl : Sz l := hl
  simp [-List.getD_eq_getElem?_getD, -List.mem_cons, -Bool.forall_bool, -Bool.exists_bool, and_assoc, peta, tl_inj, ex_1, ex_2, ex_3, ex_4, ex_5, ex_6, ex_7, ex_8, ex_9, ey_2, ey_3, ey_4, ey_5, ey_6, ey_7, ey_8, ey_9]
  exact ⟨⟨0, by simp, idx_init _ _, rfl⟩, fun k hk he => ⟨fun hlt => ⟨hlt, fun h => (idx_step 0 _ hlt he).1 (by simp [h, -List.getD_eq_getElem?_getD]), fun h => ⟨k + 1, hlt, (idx_step 0 _ hlt he).2 (by simp [h, -List.getD_eq_getElem?_getD]), by omega, wrap_succ hlt hl⟩⟩, fun hge => idx_end _ hge he⟩⟩)
theorem k_ContainsSort : SoundC Tryz.prog K_ContainsSort.1 K_ContainsSort.2 := sound_of hm (CtxOK.nil.and k_IndexSort) (fun _ => []) (by kernel_rfl) fun (l : List Int) hl => cast (vc_ContainsSort l) (by
  replace hl : Sz l := hl
  simp only [idx_any]
  simp [-List.getD_eq_getElem?_getD, -List.mem_cons, -Bool.forall_bool, -Bool.exists_bool, and_assoc, peta, tl_inj, ex_1, ex_2, ex_3, ex_4, ex_5, ex_6, ex_7, ex_8, ex_9, ey_2, ey_3, ey_4, ey_5, ey_6, ey_7, ey_8, ey_9]
  exact hl)
theorem all_any {α : Type} (p : α → Bool) (l : List α) : l.all p = !(l.any fun y => !p y) := by
  induction l with
  | nil => rfl
  | cons x r ih => simp only [List.all_cons, List.any_cons, ih]; cases p x <;> rfl

theorem k_symok : SoundC Tryz.prog K_symok.1 K_symok.2 := sound_of hm (((CtxOK.nil.and k_ContainsSort).and k_isSort).and k_iNameOk) (fun _ => []) (by kernel_rfl) fun (x : Sym) hl => cast (vc_symok x) (by
  obtain ⟨h1, h2⟩ : x.1.size ≤ 1048576 ∧ Sz x.2.1 := hl
  simp [-List.getD_eq_getElem?_getD, -List.mem_cons, -Bool.forall_bool, -Bool.exists_bool, and_assoc, peta, tl_inj, ex_1, ex_2, ex_3, ex_4, ex_5, ex_6, ex_7, ex_8, ex_9, ey_2, ey_3, ey_4, ey_5, ey_6, ey_7, ey_8, ey_9]
  refine ⟨h1, fun h3 => ⟨fun h4 => ⟨fun h5 => ⟨h2, ?_⟩, fun h5 => by simp [symOk, h5]⟩, fun h4 => ?_⟩, fun h3 => by simp [symOk, h3]⟩
  · unfold symOk
    rw [h3, h5, decide_eq_true (by omega : x.2.1.length ≤ 2), all_any]; simp
  · unfold symOk
    rw [decide_eq_false (by omega : ¬ x.2.1.length ≤ 2)]; simp)

theorem sig_step {s : Sig} {k : Nat} (hk : k < s.length) (he : sigL none s = sigL (prevS s k) (s.drop k)) :
    (symOk (s.getD k dY) = false → sigOk s = false) ∧ (before (prevS s k) (s.getD k dY).1 = false → sigOk s = false) ∧ (symOk (s.getD k dY) = true → before (prevS s k) (s.getD k dY).1 = true → sigL none s = sigL (prevS s (k + 1)) (s.drop (k + 1))) := by
  rw [drop_get dY hk] at he
  simp only [sigL] at he
  refine ⟨fun h => ?_, fun h => ?_, fun h1 h2 => ?_⟩
  · unfold sigOk; rw [he, h]; simp
  · unfold sigOk; rw [he, h]; simp
  · rw [he, h1, h2]
    simp [prevS, -List.getD_eq_getElem?_getD]
theorem sig_end {s : Sig} {k : Nat} (hk : s.length ≤ k) (he : sigL none s = sigL (prevS s k) (s.drop k)) : sigOk s = decide ((s.length : Int) ≤ 7) := by
  rw [drop_end (by omega)] at he
  unfold sigOk
  rw [he]
  simp only [sigL, Bool.true_and]
  congr 1
  simp only [eq_iff_iff]; omega

theorem sSigOk_inner {s : Sig} (hl : SmG s) {k : Nat} (hlt : k < s.length) (he : sigL none s = sigL (prevS s k) (s.drop k)) (h1 : nameOk (s.getD k dY).1 = true) (h2 : (s.getD k dY).2.1.length ≤ 2) (h3 : isSort (s.getD k dY).2.2 = true) (h4 : before (prevS s k) (s.getD k dY).1 = true) :
    k < s.length ∧
      (∃ x_1, x_1 ≤ (s.getD k dY).2.1.length ∧ (s.getD k dY).2.1.all isSort = ((s.getD k dY).2.1.drop x_1).all isSort ∧ nameOk (s.getD k dY).1 = true ∧ (s.getD k dY).2.1.length ≤ 2 ∧ isSort (s.getD k dY).2.2 = true ∧ before (prevS s k) (s.getD k dY).1 = true ∧ (0 : Int) = (x_1 : Int)) ∧
      ∀ (j : Nat), k < s.length → j ≤ (s.getD k dY).2.1.length → (s.getD k dY).2.1.all isSort = ((s.getD k dY).2.1.drop j).all isSort → nameOk (s.getD k dY).1 = true → (s.getD k dY).2.1.length ≤ 2 → isSort (s.getD k dY).2.2 = true → before (prevS s k) (s.getD k dY).1 = true →
        (j < (s.getD k dY).2.1.length → j < (s.getD k dY).2.1.length ∧ (isSort ((s.getD k dY).2.1.getD j 0) = false → sigOk s = false) ∧
          (isSort ((s.getD k dY).2.1.getD j 0) = true → k < s.length ∧ ∃ x_1, x_1 ≤ (s.getD k dY).2.1.length ∧ (s.getD k dY).2.1.all isSort = ((s.getD k dY).2.1.drop x_1).all isSort ∧ nameOk (s.getD k dY).1 = true ∧ (s.getD k dY).2.1.length ≤ 2 ∧ isSort (s.getD k dY).2.2 = true ∧ before (prevS s k) (s.getD k dY).1 = true ∧ (s.getD k dY).2.1.length - x_1 < (s.getD k dY).2.1.length - j ∧ IntKind.i64.wrap ((j : Int) + 1) = (x_1 : Int))) ∧
        ((s.getD k dY).2.1.length ≤ j → ∃ x', x' ≤ s.length ∧ sigL none s = sigL (prevS s x') (s.drop x') ∧ s.length - x' < s.length - k ∧ IntKind.i64.wrap ((k : Int) + 1) = (x' : Int)) := by
  have hlen := hl.len
  obtain ⟨e1, e2, e3⟩ := sig_step hlt he
  refine ⟨hlt, ⟨0, by simp, by simp, h1, h2, h3, h4, rfl⟩, fun j _ hj hj2 _ _ _ _ => ⟨fun hjl => ⟨hjl, fun h => ?_, fun h => ⟨hlt, j + 1, hjl, ?_, h1, h2, h3, h4, by omega, wrap_small (by omega) (by omega)⟩⟩, fun hge => ⟨k + 1, hlt, e3 ?_ h4, by omega, wrap_small (by omega) (by omega)⟩⟩⟩
  · rw [drop_get 0 hjl, List.all_cons, h, Bool.false_and] at hj2
    exact e1 (by unfold symOk; rw [hj2]; simp)
  · rw [hj2, drop_get 0 hjl, List.all_cons, h, Bool.true_and]
  · rw [drop_end (by omega)] at hj2
    unfold symOk
    rw [hj2, h1, h3, decide_eq_true h2]; rfl

theorem k_sSigOk : SoundC Tryz.prog K_sSigOk.1 K_sSigOk.2 := sound_of hm ((CtxOK.nil.and k_l4Sort).and k_sNameOk) A_sSigOk (by kernel_rfl) fun (s : Sig) hl => cast (vc_sSigOk s) (by
  replace hl : SmG s := hl
  simp [-List.getD_eq_getElem?_getD, -List.mem_cons, -Bool.forall_bool, -Bool.exists_bool, and_assoc, peta, tl_inj, ex_1, ex_2, ex_3, ex_4, ex_5, ex_6, ex_7, ex_8, ex_9, ey_2, ey_3, ey_4, ey_5, ey_6, ey_7, ey_8, ey_9]
  have hlen := hl.len
  refine ⟨⟨0, by simp, by simp [prevS], rfl⟩, fun k hk he => ⟨fun hlt => ?_, fun hge => (sig_end hge he).symm⟩⟩
  obtain ⟨m1, m2⟩ := hl.mem (getD_mem dY hlt)
  obtain ⟨e1, e2, e3⟩ := sig_step hlt he
  have inner : nameOk (s.getD k dY).1 = true → (s.getD k dY).2.1.length ≤ 2 → isSort (s.getD k dY).2.2 = true → before (prevS s k) (s.getD k dY).1 = true → _ := sSigOk_inner hl hlt he
  refine ⟨hlt, m1, fun h => e1 (by unfold symOk; rw [h]; rfl), fun h1 => ⟨fun h => e1 ?_, fun h2 => ⟨fun h => e1 (by unfold symOk; rw [h]; simp), fun h3 => ⟨fun h4 => ?_, fun h4 => inner h1 (by omega) h3 (by rw [h4]; rfl)⟩⟩⟩⟩
  · unfold symOk; rw [decide_eq_false (by omega : ¬ (s.getD k dY).2.1.length ≤ 2)]; simp
  · rw [wrap_small (by omega) (by omega)]
    have e : ((k : Int) - 1).toNat = k - 1 := by omega
    rw [e]
    have hb : before (prevS s k) (s.getD k dY).1 = Op.bytesLess (s.getD (k - 1) dY).1.toList (s.getD k dY).1.toList := by
      unfold prevS; rw [if_neg (by omega)]; rfl
    exact ⟨by omega, by omega, by omega, fun h => e2 (by rw [hb, h]), fun h => inner h1 (by omega) h3 (by rw [hb, h])⟩)

theorem k_iSigOk : SoundC Tryz.prog K_iSigOk.1 K_iSigOk.2 := sound_of hm (CtxOK.nil.and k_symok) A_iSigOk (by kernel_rfl) fun (s : Sig) hl => cast (vc_iSigOk s) (by
  replace hl : SmG s := hl
  simp [-List.getD_eq_getElem?_getD, -List.mem_cons, -Bool.forall_bool, -Bool.exists_bool, and_assoc, peta, tl_inj, ex_1, ex_2, ex_3, ex_4, ex_5, ex_6, ex_7, ex_8, ex_9, ey_2, ey_3, ey_4, ey_5, ey_6, ey_7, ey_8, ey_9]
  have hlen := hl.len
  refine ⟨⟨0, by simp, by simp [prevS], rfl⟩, fun k hk he => ⟨fun hlt => ?_, fun hge => (sig_end hge he).symm⟩⟩
  obtain ⟨m1, m2⟩ := hl.mem (getD_mem dY hlt)
  obtain ⟨e1, e2, e3⟩ := sig_step hlt he
  refine ⟨hlt, m1, by omega, e1, fun h1 => ⟨fun h4 => ?_, fun h4 => ⟨k + 1, hlt, e3 h1 (by rw [h4]; rfl), by omega, wrap_small (by omega) (by omega)⟩⟩⟩
  rw [wrap_small (by omega) (by omega)]
  have e : ((k : Int) - 1).toNat = k - 1 := by omega
  rw [e]
  have hb : before (prevS s k) (s.getD k dY).1 = Op.bytesLess (s.getD (k - 1) dY).1.toList (s.getD k dY).1.toList := by
    unfold prevS; rw [if_neg (by omega)]; rfl
  exact ⟨by omega, by omega, by omega, fun h => e2 (by rw [hb, h]), fun h => ⟨k + 1, hlt, e3 h1 (by rw [hb, h]), by omega, wrap_small (by omega) (by omega)⟩⟩)

end Cg
