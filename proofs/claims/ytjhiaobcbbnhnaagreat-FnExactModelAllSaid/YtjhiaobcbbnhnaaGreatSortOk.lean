/-
  The codes' contracts: terms. No condition.
-/
import Derived.Test.YtjhiaobcbbnhnaaGreatSortVc
import Derived.Test.YtjhiaobcbbnhnaaGreatSigOk
set_option linter.unusedVariables false
set_option linter.unusedSimpArgs false
set_option maxRecDepth 100000
set_option maxHeartbeats 4000000
namespace Pl
open Go Cg
theorem tparts {t u : Tm} : (t.val = u.val ∧ t.kids = u.kids) ↔ t = u := ⟨fun h => Tree.ext h.1 h.2, fun h => by rw [h]; exact ⟨rfl, rfl⟩⟩
theorem tparts' {t u : Tm} {p : Prop} : (t.val = u.val → t.kids = u.kids → p) ↔ (t = u → p) := ⟨fun h e => h (by rw [e]) (by rw [e]), fun h e1 e2 => h (Tree.ext e1 e2)⟩
theorem costTs_take {l : List Tm} {k : Nat} (h : k < l.length) : costTs (l.take (k + 1)) = costTs (l.take k) + costT (l.getD k dT) := by
  rw [List.take_succ_eq_append_getElem h, costTs_snoc]; simp [h]
theorem costTs_take_le (l : List Tm) (k : Nat) : costTs (l.take k) ≤ costTs l := by
  induction l generalizing k with
  | nil => simp
  | cons x r ih =>
    cases k with
    | zero => simp [costTs]
    | succ k => simp only [List.take_succ_cons, costTs]; have := ih k; omega
theorem manyL_kids {l : List Tm} {t : Tm} (h : t ∈ l) : manyL t.kids < manyL l := by
  have := many_mem h
  have := t.many_eq
  omega
end Pl
namespace Cg
open Go Go.Proofs Pl
theorem SmTs.mem {l : List Tm} (h : SmTs l) {t : Tm} (ht : t ∈ l) : SmT t := by
  have := costT_mem ht
  have h1 : l.length + costTs l ≤ 1048576 := h
  show costT t ≤ 1048576
  omega
theorem SmTs.len {l : List Tm} (h : SmTs l) : l.length ≤ 1048576 := by
  have h1 : l.length + costTs l ≤ 1048576 := h
  omega
theorem SmT.kids {v : ByteArray} {ks : List Tm} (h : SmT (.mk v ks)) : SmTs ks := by
  have h1 : costT (.mk v ks) ≤ 1048576 := h
  rw [costT_eq] at h1
  simp only [Tree.val, Tree.kids] at h1
  show ks.length + costTs ks ≤ 1048576
  omega

theorem k_toTerms (n : Nat) : SoundC Tryz.prog (K_toTermS n).1 (K_toTermS n).2 ∧ SoundC Tryz.prog (K_toTerm n).1 (K_toTerm n).2 := by
  induction n with
  | zero => exact ⟨sound_of hm CtxOK.nil (fun _ => []) (by kernel_rfl) fun x h => absurd h.2 (Nat.not_lt_zero _), sound_of hm CtxOK.nil (fun _ => []) (by kernel_rfl) fun x h => absurd h.2 (Nat.not_lt_zero _)⟩
  | succ n ih =>
    have h1 : SoundC Tryz.prog (K_toTermS (n + 1)).1 (K_toTermS (n + 1)).2 := sound_of hm (CtxOK.nil.and (K := K_toTerm n) ih.2) A_toTermS (by kernel_rfl) fun (l : List Tm) hl => cast (vc_toTermS n l) (by
      obtain ⟨hl, hn⟩ : SmTs l ∧ manyL l < n + 1 := hl
      simp [-List.getD_eq_getElem?_getD, -List.mem_cons, -Bool.forall_bool, -Bool.exists_bool, and_assoc, peta, tl_inj, ex_1, ex_2, ex_3, ex_4, ex_5, ex_6, ex_7, ex_8, ex_9, ey_2, ey_3, ey_4, ey_5, ey_6, ey_7, ey_8, ey_9]
      have hlen := hl.len
      refine ⟨by omega, by omega, ⟨0, by simp, List.replicate l.length dT, by simp, by simp, by simp, by simp, terms_make⟩, fun k b hk hb ht => ⟨fun hlt => ⟨hlt, hl.mem (getD_mem dT hlt), by have := manyL_kids (getD_mem dT hlt); omega, by omega, k + 1, hlt, b.set k (l.getD k dT), by simp [hb], copy_step dT hlt hb ht, by omega, by simp, wrap_small (by omega) (by omega), ?_⟩, fun hge => copy_end hge hb ht⟩⟩
      have := @terms_set b k (l.getD k dT).val (l.getD k dT).kids
      rw [Tree.eta] at this
      exact this)
    have h2 : SoundC Tryz.prog (K_toTerm (n + 1)).1 (K_toTerm (n + 1)).2 := sound_of hm (CtxOK.nil.and (K := K_toTermS (n + 1)) h1) (fun _ => []) (by kernel_rfl) fun (x : TP) hl => cast (vc_toTerm (n + 1) x.1 x.2) (by
      obtain ⟨a, b⟩ := x
      obtain ⟨hl, hn⟩ : SmT (.mk a b) ∧ manyL b < n + 1 := hl
      simp [-List.getD_eq_getElem?_getD, -List.mem_cons, -Bool.forall_bool, -Bool.exists_bool, and_assoc, peta, tl_inj, ex_1, ex_2, ex_3, ex_4, ex_5, ex_6, ex_7, ex_8, ex_9, ey_2, ey_3, ey_4, ey_5, ey_6, ey_7, ey_8, ey_9]
      exact ⟨hl.kids, hn⟩)
    exact ⟨h1, h2⟩

theorem k_szTerms (n : Nat) : SoundC Tryz.prog (K_szTermS n).1 (K_szTermS n).2 ∧ SoundC Tryz.prog (K_szTerm n).1 (K_szTerm n).2 := by
  induction n with
  | zero => exact ⟨sound_of hm CtxOK.nil (fun _ => []) (by kernel_rfl) fun x h => absurd h.2 (Nat.not_lt_zero _), sound_of hm CtxOK.nil (fun _ => []) (by kernel_rfl) fun x h => absurd h.2 (Nat.not_lt_zero _)⟩
  | succ n ih =>
    have h1 : SoundC Tryz.prog (K_szTermS (n + 1)).1 (K_szTermS (n + 1)).2 := sound_of hm (CtxOK.nil.and (K := K_szTerm n) ih.2) (fun (l, k) => A_szTermS l k) (by kernel_rfl) fun (l, k) hl => cast (vc_szTermS n l k) (by
      obtain ⟨⟨⟨h1, h2⟩, h3, h4⟩, hn⟩ : ((Ml l ∧ ∀ t ∈ l, MlT t) ∧ Fu k) ∧ manyL l < n + 1 := hl
      rw [wrap_small (x := k - (l.length : Int)) (by omega) (by omega)]
      simp [-List.getD_eq_getElem?_getD, -List.mem_cons, -Bool.forall_bool, -Bool.exists_bool, and_assoc, peta, tl_inj, ex_1, ex_2, ex_3, ex_4, ex_5, ex_6, ex_7, ex_8, ex_9, ey_2, ey_3, ey_4, ey_5, ey_6, ey_7, ey_8, ey_9]
      refine ⟨fun h => (lim_of_neg (by omega)).symm, fun h => ⟨⟨0, by simp, by simp [costTs]; omega, by simp [costTs], rfl⟩, fun i hi hk => ⟨fun hlt => ?_, fun hge => ?_⟩⟩⟩
      · have ht := costTs_take hlt
        have hle := costTs_take_le l (i + 1)
        refine ⟨hlt, h2 _ (getD_mem dT hlt), hk, by omega, by have := manyL_kids (getD_mem dT hlt); omega, fun h5 => ?_, fun h5 => ?_⟩
        · exact (lim_of_neg (by have := (lim_neg h5).1; omega)).symm
        · obtain ⟨h6, h7⟩ := lim_nonneg h5
          exact ⟨i + 1, hlt, by omega, by omega, by rw [h7, ht]; omega, wrap_small (by omega) (by omega)⟩
      · rw [List.take_of_length_le hge] at hk ⊢
        exact (lim_of_nonneg (by omega)).symm.trans (by congr 1; omega))
    have h2 : SoundC Tryz.prog (K_szTerm (n + 1)).1 (K_szTerm (n + 1)).2 := sound_of hm (CtxOK.nil.and (K := K_szTermS (n + 1)) h1) (fun _ => []) (by kernel_rfl) fun (x : TP × Int) hl => cast (vc_szTerm (n + 1) x.1.1 x.1.2 x.2) (by
      obtain ⟨⟨a, b⟩, k⟩ := x
      obtain ⟨⟨h1, h3, h4⟩, hn⟩ : (MlT (.mk a b) ∧ Fu k) ∧ manyL b < n + 1 := hl
      have h5 := h1.here
      simp only [Tree.val, Tree.kids] at h5
      rw [wrap_small (x := k - (a.size : Int)) (by omega) (by omega)]
      simp [-List.getD_eq_getElem?_getD, -List.mem_cons, -Bool.forall_bool, -Bool.exists_bool, and_assoc, peta, tl_inj, ex_1, ex_2, ex_3, ex_4, ex_5, ex_6, ex_7, ex_8, ex_9, ey_2, ey_3, ey_4, ey_5, ey_6, ey_7, ey_8, ey_9]
      have e : k - (costT (.mk a b) : Int) = k - a.size - (b.length + costTs b) := by rw [costT_eq]; simp only [Tree.val, Tree.kids]; omega
      rw [e]
      exact ⟨fun h => (lim_of_neg (by omega)).symm, fun h => ⟨h5.2, fun t ht => h1.kid ht, h, by omega, hn, fun h6 => (lim_neg h6).2.symm, fun _ => rfl⟩⟩)
    exact ⟨h1, h2⟩

theorem k_eqTerms (n : Nat) : SoundC Tryz.prog (K_eqTermS n).1 (K_eqTermS n).2 ∧ SoundC Tryz.prog (K_eqTerm n).1 (K_eqTerm n).2 := by
  induction n with
  | zero => exact ⟨sound_of hm CtxOK.nil (fun _ => []) (by kernel_rfl) fun x h => absurd h.2 (Nat.not_lt_zero _), sound_of hm CtxOK.nil (fun _ => []) (by kernel_rfl) fun x h => absurd h.2 (Nat.not_lt_zero _)⟩
  | succ n ih =>
    have h1 : SoundC Tryz.prog (K_eqTermS (n + 1)).1 (K_eqTermS (n + 1)).2 := sound_of hm (CtxOK.nil.and (K := K_eqTerm n) ih.2) (fun (l, m) => A_eqTermS l m) (by kernel_rfl) fun (l, m) hl => cast (vc_eqTermS n l m) (by
      obtain ⟨hl, hn⟩ : SmTs l ∧ manyL l < n + 1 := hl
      simp [-List.getD_eq_getElem?_getD, -List.mem_cons, -Bool.forall_bool, -Bool.exists_bool, and_assoc, peta, tl_inj, ex_1, ex_2, ex_3, ex_4, ex_5, ex_6, ex_7, ex_8, ex_9, ey_2, ey_3, ey_4, ey_5, ey_6, ey_7, ey_8, ey_9]
      have hlen := hl.len
      simp only [tparts']
      refine ⟨fun h e => h (by rw [e]), fun h => ⟨⟨0, by simp; omega⟩, fun k hk hlm he => ⟨fun hlt => ⟨hlt, by omega, hl.mem (getD_mem dT hlt), by have := manyL_kids (getD_mem dT hlt); omega, (eq_step dT hlt hlm he).1, fun h => ⟨k + 1, hlt, hlm, (eq_step dT hlt hlm he).2 h, by omega, wrap_small (by omega) (by omega)⟩⟩, fun hge => ?_⟩⟩⟩
      rw [drop_end (by omega), drop_end (l := m) (by omega)] at he
      exact he.2 rfl)
    have h2 : SoundC Tryz.prog (K_eqTerm (n + 1)).1 (K_eqTerm (n + 1)).2 := sound_of hm (CtxOK.nil.and (K := K_eqTermS (n + 1)) h1) (fun _ => []) (by kernel_rfl) fun (x : TP × TP) hl => cast (vc_eqTerm (n + 1) x.1.1 x.1.2 x.2.1 x.2.2) (by
      obtain ⟨⟨a, b⟩, c, d⟩ := x
      obtain ⟨hl, hn⟩ : SmT (.mk a b) ∧ manyL b < n + 1 := hl
      simp [-List.getD_eq_getElem?_getD, -List.mem_cons, -Bool.forall_bool, -Bool.exists_bool, and_assoc, peta, tl_inj, ex_1, ex_2, ex_3, ex_4, ex_5, ex_6, ex_7, ex_8, ex_9, ey_2, ey_3, ey_4, ey_5, ey_6, ey_7, ey_8, ey_9]
      exact ⟨fun h e => absurd e h, fun _ => ⟨hl.kids, hn, fun h _ => h, fun h => ⟨‹_›, h⟩⟩⟩)
    exact ⟨h1, h2⟩
theorem k_szT : SoundC Tryz.prog K_szT.1 K_szT.2 := SoundC.fam (fun x => manyL x.1.2) fun n => (k_szTerms n).2
theorem k_szTs : SoundC Tryz.prog K_szTs.1 K_szTs.2 := SoundC.fam (fun x => manyL x.1) fun n => (k_szTerms n).1
theorem k_toT : SoundC Tryz.prog K_toT.1 K_toT.2 := SoundC.famI (fun x => manyL x.2) fun n => (k_toTerms n).2
theorem k_toTs : SoundC Tryz.prog K_toTs.1 K_toTs.2 := SoundC.famI (fun x => manyL x) fun n => (k_toTerms n).1
theorem k_eqT : SoundC Tryz.prog K_eqT.1 K_eqT.2 := SoundC.fam (fun x => manyL x.1.2) fun n => (k_eqTerms n).2
theorem k_eqTs : SoundC Tryz.prog K_eqTs.1 K_eqTs.2 := SoundC.fam (fun x => manyL x.1) fun n => (k_eqTerms n).1
end Cg
