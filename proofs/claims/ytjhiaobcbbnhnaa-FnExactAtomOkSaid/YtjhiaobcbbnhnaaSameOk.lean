/-
  The codes' contracts: atoms, formulas, explanations, cases: sizes, copies, equality. No condition.
-/
import Derived.Test.YtjhiaobcbbnhnaaSameVc
import Derived.Test.YtjhiaobcbbnhnaaTsortOk
import Derived.Test.YtjhiaobcbbnhnaaCnfOk
set_option linter.unusedVariables false
set_option linter.unusedSimpArgs false
set_option maxRecDepth 100000
set_option maxHeartbeats 1000000
namespace Cg
open Go Go.Proofs Pl
section
variable {α : Type} {f : α → Nat}
theorem SmTrs.mem {l : List (Tree α)} (h : SmTrs f l) {t : Tree α} (ht : t ∈ l) : SmTr f t := by
  have := costTr_mem (f := f) ht
  have h1 : l.length + costTrs f l ≤ 1048576 := h
  show costTr f t ≤ 1048576
  omega
theorem SmTrs.len {l : List (Tree α)} (h : SmTrs f l) : l.length ≤ 1048576 := by
  have h1 : l.length + costTrs f l ≤ 1048576 := h
  omega
theorem SmTr.kids {v : α} {ks : List (Tree α)} (h : SmTr f (.mk v ks)) : SmTrs f ks := by
  have h1 : costTr f (.mk v ks) ≤ 1048576 := h
  rw [costTr_eq] at h1
  simp only [Tree.val, Tree.kids] at h1
  show ks.length + costTrs f ks ≤ 1048576
  omega
theorem SmTr.here {v : α} {ks : List (Tree α)} (h : SmTr f (.mk v ks)) : f v ≤ 1048576 := by
  have h1 : costTr f (.mk v ks) ≤ 1048576 := h
  rw [costTr_eq] at h1
  simp only [Tree.val, Tree.kids] at h1
  omega
end
theorem SmA.parts {x : Atm} (h : SmA x) : SmT (.mk x.2.1.1 x.2.1.2) ∧ SmT (.mk x.2.2.1.1 x.2.2.1.2) ∧ SmTs x.2.2.2.1 ∧ x.2.2.2.2.1.length ≤ 1048576 := by
  have h1 : costA x ≤ 1048576 := h
  unfold costA at h1
  refine ⟨?_, ?_, ?_, by omega⟩
  · show costT _ ≤ _; omega
  · show costT _ ≤ _; omega
  · show _ + _ ≤ _; omega

theorem k_szAtom : SoundC Try.prog K_szAtom.1 K_szAtom.2 := sound_of hm (((CtxOK.nil.and k_szIntS).and k_szTs).and k_szT) (fun _ => []) (by kernel_rfl) fun x hl => (by
  rw [← vc_szAtom x]
  obtain ⟨⟨m1, m2, ⟨m3, m4⟩, m5⟩, h3, h4⟩ : MlA x.1 ∧ Fu x.2 := hl
  obtain ⟨⟨kind, A, B, nums, times, bound, strict⟩, k⟩ := x
  dsimp only at *
  simp [-List.getD_eq_getElem?_getD, -List.mem_cons, -Bool.forall_bool, -Bool.exists_bool, and_assoc, peta, tl_inj, ex_1, ex_2, ex_3, ex_4, ex_5, ex_6, ex_7, ex_8, ex_9, ey_2, ey_3, ey_4, ey_5, ey_6, ey_7, ey_8, ey_9]
  have e : k - (costA (kind, A, B, nums, times, bound, strict) : Int) = k - costT (.mk A.1 A.2) - costT (.mk B.1 B.2) - (nums.length + costTs nums) - times.length := by simp only [costA]; omega
  rw [e]
  have neg : ∀ y : Int, y < 0 → k - costT (.mk A.1 A.2) - costT (.mk B.1 B.2) - (nums.length + costTs nums) - times.length ≤ y → (-1 : Int) = lim (k - costT (.mk A.1 A.2) - costT (.mk B.1 B.2) - (nums.length + costTs nums) - times.length) := fun y h h' => (lim_of_neg (by omega)).symm
  refine ⟨m1, h3, h4, fun h => neg _ (lim_neg h).1 (by omega), fun h => ?_⟩
  obtain ⟨p1, e1⟩ := lim_nonneg h
  rw [e1]
  refine ⟨m2, p1, by omega, fun h => neg _ (lim_neg h).1 (by omega), fun h => ?_⟩
  obtain ⟨p2, e2⟩ := lim_nonneg h
  rw [e2]
  refine ⟨m3, m4, p2, by omega, fun h => neg _ (lim_neg h).1 (by omega), fun h => ?_⟩
  obtain ⟨p3, e3⟩ := lim_nonneg h
  rw [e3]
  exact ⟨m5, p3, by omega, fun h => (lim_neg h).2.symm, fun _ => rfl⟩)

theorem k_szLit : SoundC Try.prog K_szLit.1 K_szLit.2 := sound_of hm (CtxOK.nil.and k_szAtom) (fun _ => []) (by kernel_rfl) fun x hl => (by
  rw [← vc_szLit x]
  obtain ⟨⟨m1, m2, ⟨m3, m4⟩, m5⟩, h3, h4⟩ : MlA x.1.1 ∧ Fu x.2 := hl
  obtain ⟨⟨⟨kind, A, B, nums, times, bound, strict⟩, no⟩, k⟩ := x
  dsimp only at *
  simp [-List.getD_eq_getElem?_getD, -List.mem_cons, -Bool.forall_bool, -Bool.exists_bool, and_assoc, peta, tl_inj, ex_1, ex_2, ex_3, ex_4, ex_5, ex_6, ex_7, ex_8, ex_9, ey_2, ey_3, ey_4, ey_5, ey_6, ey_7, ey_8, ey_9]
  exact ⟨m1, m2, m3, m4, m5, h3, h4, fun h => (lim_neg h).2.symm, fun _ => rfl⟩)

theorem k_toAtom : SoundC Try.prog K_toAtom.1 K_toAtom.2 := sound_of hm (((CtxOK.nil.and k_toIntS).and k_toTs).and k_toT) (fun _ => []) (by kernel_rfl) fun x hl => (by
  rw [← vc_toAtom x]
  obtain ⟨s1, s2, s3, s4⟩ := SmA.parts (x := x) hl
  obtain ⟨kind, A, B, nums, times, bound, strict⟩ := x
  dsimp only at *
  simp [-List.getD_eq_getElem?_getD, -List.mem_cons, -Bool.forall_bool, -Bool.exists_bool, and_assoc, peta, tl_inj, ex_1, ex_2, ex_3, ex_4, ex_5, ex_6, ex_7, ex_8, ex_9, ey_2, ey_3, ey_4, ey_5, ey_6, ey_7, ey_8, ey_9]
  exact ⟨s1, s2, s3, by omega⟩)

theorem k_toLit : SoundC Try.prog K_toLit.1 K_toLit.2 := sound_of hm (CtxOK.nil.and k_toAtom) (fun _ => []) (by kernel_rfl) fun x hl => (by
  rw [← vc_toLit x]
  have h1 : SmA x.1 := hl
  obtain ⟨⟨kind, A, B, nums, times, bound, strict⟩, no⟩ := x
  dsimp only at *
  simp [-List.getD_eq_getElem?_getD, -List.mem_cons, -Bool.forall_bool, -Bool.exists_bool, and_assoc, peta, tl_inj, ex_1, ex_2, ex_3, ex_4, ex_5, ex_6, ex_7, ex_8, ex_9, ey_2, ey_3, ey_4, ey_5, ey_6, ey_7, ey_8, ey_9]
  exact h1)

theorem k_eqAtom : SoundC Try.prog K_eqAtom.1 K_eqAtom.2 := sound_of hm (((CtxOK.nil.and k_eqIntS).and k_eqTs).and k_eqT) (fun _ => []) (by kernel_rfl) fun x hl => (by
  rw [← vc_eqAtom x]
  obtain ⟨s1, s2, s3, s4⟩ := SmA.parts (x := x.1) hl
  obtain ⟨⟨kind, A, B, nums, times, bound, strict⟩, kind', A', B', nums', times', bound', strict'⟩ := x
  dsimp only at *
  simp [-List.getD_eq_getElem?_getD, -List.mem_cons, -Bool.forall_bool, -Bool.exists_bool, and_assoc, peta, tl_inj, ex_1, ex_2, ex_3, ex_4, ex_5, ex_6, ex_7, ex_8, ex_9, ey_2, ey_3, ey_4, ey_5, ey_6, ey_7, ey_8, ey_9]
  repeat' (first | apply And.intro | intro _)
  all_goals first | contradiction | assumption | omega | grind)

theorem k_eqLit : SoundC Try.prog K_eqLit.1 K_eqLit.2 := sound_of hm (CtxOK.nil.and k_eqAtom) (fun _ => []) (by kernel_rfl) fun x hl => (by
  rw [← vc_eqLit x]
  have h1 : SmA x.1.1 := hl
  obtain ⟨⟨⟨kind, A, B, nums, times, bound, strict⟩, no⟩, ⟨kind', A', B', nums', times', bound', strict'⟩, no'⟩ := x
  dsimp only at *
  simp [-List.getD_eq_getElem?_getD, -List.mem_cons, -Bool.forall_bool, -Bool.exists_bool, and_assoc, peta, tl_inj, ex_1, ex_2, ex_3, ex_4, ex_5, ex_6, ex_7, ex_8, ex_9, ey_2, ey_3, ey_4, ey_5, ey_6, ey_7, ey_8, ey_9]
  repeat' (first | apply And.intro | intro _)
  all_goals first | contradiction | assumption | omega | grind)

theorem k_iTSames (n : Nat) : SoundC Try.prog (K_EqualT n).1 (K_EqualT n).2 ∧ SoundC Try.prog (K_iTSame n).1 (K_iTSame n).2 := by
  induction n with
  | zero => exact ⟨sound_of hm CtxOK.nil (fun _ => []) (by kernel_rfl) fun x h => absurd h.2 (Nat.not_lt_zero _), sound_of hm CtxOK.nil (fun _ => []) (by kernel_rfl) fun x h => absurd h.2 (Nat.not_lt_zero _)⟩
  | succ n ih =>
    have h1 : SoundC Try.prog (K_EqualT (n + 1)).1 (K_EqualT (n + 1)).2 := sound_of hm (CtxOK.nil.and (K := K_iTSame n) ih.2) (fun x => A_EqualT x.1 x.2) (by kernel_rfl) fun (x : _) hl => (by
      have hn : manyL x.1 < n + 1 := hl.2
      replace hl := hl.1
      rw [← vc_EqualT n x]
      have hl : SmTs x.1 := hl
      obtain ⟨l, m⟩ := x
      dsimp only at *
      simp [-List.getD_eq_getElem?_getD, -List.mem_cons, -Bool.forall_bool, -Bool.exists_bool, and_assoc, peta, tl_inj, ex_1, ex_2, ex_3, ex_4, ex_5, ex_6, ex_7, ex_8, ex_9, ey_2, ey_3, ey_4, ey_5, ey_6, ey_7, ey_8, ey_9]
      have hlen := hl.len
      simp only [tparts']
      refine ⟨fun h e => h (by rw [e]), fun h => ⟨⟨0, by simp; omega⟩, fun k hk hlm he => ⟨fun hlt => ⟨hlt, by omega, hl.mem (getD_mem dT hlt), by have := manyL_kids (getD_mem dT hlt); omega, (eq_step dT hlt hlm he).1, fun h => ⟨k + 1, hlt, hlm, (eq_step dT hlt hlm he).2 h, by omega, wrap_small (by omega) (by omega)⟩⟩, fun hge => ?_⟩⟩⟩
      rw [drop_end (by omega), drop_end (l := m) (by omega)] at he
      exact he.2 rfl)
    have h2 : SoundC Try.prog (K_iTSame (n + 1)).1 (K_iTSame (n + 1)).2 := sound_of hm (CtxOK.nil.and (K := K_EqualT (n + 1)) h1) (fun _ => []) (by kernel_rfl) fun (x : _) hl => (by
      have hn : manyL x.1.2 < n + 1 := hl.2
      replace hl := hl.1
      rw [← vc_iTSame (n + 1) x]
      have hl : SmT (.mk x.1.1 x.1.2) := hl
      obtain ⟨⟨a, b⟩, c, d⟩ := x
      dsimp only at *
      simp [-List.getD_eq_getElem?_getD, -List.mem_cons, -Bool.forall_bool, -Bool.exists_bool, and_assoc, peta, tl_inj, ex_1, ex_2, ex_3, ex_4, ex_5, ex_6, ex_7, ex_8, ex_9, ey_2, ey_3, ey_4, ey_5, ey_6, ey_7, ey_8, ey_9]
      exact ⟨fun e => ⟨hl.kids, hn, fun _ => e⟩, fun h e => absurd e h⟩)
    exact ⟨h1, h2⟩

theorem k_sTSame (n : Nat) : SoundC Try.prog (K_sTSame n).1 (K_sTSame n).2 := by
  induction n with
  | zero => exact sound_of hm CtxOK.nil (fun _ => []) (by kernel_rfl) fun x h => absurd h.2 (Nat.not_lt_zero _)
  | succ n ih => exact sound_of hm (CtxOK.nil.and (K := K_sTSame n) ih) (fun x => A_sTSame x.1 x.2) (by kernel_rfl) fun x hl => (by
      have hn : manyL x.1.2 < n + 1 := hl.2
      replace hl := hl.1
      rw [← vc_sTSame n x]
      have hl : SmT (.mk x.1.1 x.1.2) := hl
      obtain ⟨⟨a, b⟩, c, d⟩ := x
      dsimp only at *
      simp [-List.getD_eq_getElem?_getD, -List.mem_cons, -Bool.forall_bool, -Bool.exists_bool, and_assoc, peta, tl_inj, ex_1, ex_2, ex_3, ex_4, ex_5, ex_6, ex_7, ex_8, ex_9, ey_2, ey_3, ey_4, ey_5, ey_6, ey_7, ey_8, ey_9]
      have hlen := hl.kids.len
      refine ⟨fun h e => absurd e h, fun e1 => ⟨fun h _ e => h (by rw [e]), fun e2 => ⟨⟨0, by simp, by omega, e1, by simp, rfl⟩, fun k hk hlm ha he => ⟨fun hlt => ⟨hlt, by omega, hl.kids.mem (getD_mem dT hlt), by have := manyL_kids (getD_mem dT hlt); omega, fun h _ => (eq_step dT hlt hlm he).1 (tpart.1 h), fun v1 v2 => ⟨k + 1, hlt, hlm, ha, (eq_step dT hlt hlm he).2 (Tree.ext v1 v2), by omega, wrap_small (by omega) (by omega)⟩⟩, fun hge => ⟨ha, ?_⟩⟩⟩⟩⟩
      rw [drop_end (by omega), drop_end (l := d) (by omega)] at he
      exact he.2 rfl)

theorem k_sTermSame : SoundC Try.prog K_sTermSame.1 K_sTermSame.2 := SoundC.fam (fun x => manyL x.1.2) fun n => k_sTSame n
theorem k_iTermSame : SoundC Try.prog K_iTermSame.1 K_iTermSame.2 := SoundC.fam (fun x => manyL x.1.2) fun n => (k_iTSames n).2
theorem k_EqualTerms : SoundC Try.prog K_EqualTerms.1 K_EqualTerms.2 := SoundC.fam (fun x => manyL x.1) fun n => (k_iTSames n).1

theorem k_sAtomSame : SoundC Try.prog K_sAtomSame.1 K_sAtomSame.2 := sound_of hm (CtxOK.nil.and k_sTermSame) (fun x => A_sAtomSame x.1 x.2) (by kernel_rfl) fun x hl => (by
  rw [← vc_sAtomSame x]
  obtain ⟨s1, s2, s3, s4⟩ := SmA.parts (x := x.1) hl
  obtain ⟨⟨kind, A, B, nums, times, bound, strict⟩, kind', A', B', nums', times', bound', strict'⟩ := x
  dsimp only at *
  simp [-List.getD_eq_getElem?_getD, -List.mem_cons, -Bool.forall_bool, -Bool.exists_bool, and_assoc, peta, tl_inj, ex_1, ex_2, ex_3, ex_4, ex_5, ex_6, ex_7, ex_8, ex_9, ey_2, ey_3, ey_4, ey_5, ey_6, ey_7, ey_8, ey_9]
  have hlen := s3.len
  refine ⟨fun h e => absurd e h, fun e1 => ⟨s1, fun h _ e => absurd e h, fun e2 => ⟨s2, fun h _ _ e => absurd e h, fun e3 => ⟨fun h _ _ _ e => absurd (by rw [e]) h, fun e4 => ⟨fun h _ _ _ _ e => absurd (by rw [e]) h, fun e5 => ⟨fun h _ _ _ _ _ e => absurd e h, fun e6 => ⟨fun h _ _ _ _ _ _ e => absurd e h, fun e7 => ⟨⟨0, by simp, by omega, ?_, by omega, rfl⟩, fun k hk hlm he htl => ⟨fun hlt => ?_, fun hge => ?_⟩⟩⟩⟩⟩⟩⟩⟩⟩
  · rw [List.drop_zero, List.drop_zero]
    exact ⟨fun h => ⟨h.2.2.2.2.1, h.2.2.2.1⟩, fun h => ⟨e1, e2, e3, h.2, h.1, e6, e7⟩⟩
  · have k1 := drop_get dT hlt
    have k2 := drop_get (l := nums') dT (by omega : k < nums'.length)
    rw [k1, k2] at he
    refine ⟨hlt, by omega, s3.mem (getD_mem dT hlt), fun h c1 c2 c3 c4 c5 c6 c7 => ?_, fun v1 v2 => ⟨k + 1, hlt, hlm, ?_, htl, by omega, wrap_small (by omega) (by omega)⟩⟩
    · have := (List.cons.inj (he.1 ⟨c1, c2, c3, c4, c5, c6, c7⟩).2).1
      exact h (by rw [this]) (by rw [this])
    · rw [Tree.ext v1 v2] at he
      refine he.trans ⟨fun h => ⟨h.1, (List.cons.inj h.2).2⟩, fun h => ⟨h.1, by rw [h.2]⟩⟩
  · rw [drop_end (by omega), drop_end (l := nums') (by omega)] at he
    refine ⟨⟨0, by simp, htl, ?_, rfl⟩, fun j hj _ he2 => ⟨fun hlt => ?_, fun hge2 => he2.2 (by rw [drop_end (by omega), drop_end (by omega)])⟩⟩
    · rw [List.drop_zero, List.drop_zero]
      exact he.trans ⟨fun h => h.1, fun h => ⟨h, rfl⟩⟩
    · have k1 := drop_get 0 hlt
      have k2 := drop_get (l := times') 0 (by omega : j < times'.length)
      rw [k1, k2] at he2
      refine ⟨hlt, by omega, fun h c1 c2 c3 c4 c5 c6 c7 => h (List.cons.inj (he2.1 ⟨c1, c2, c3, c4, c5, c6, c7⟩)).1, fun v => ⟨j + 1, hlt, htl, ?_, by omega, wrap_small (by omega) (by omega)⟩⟩
      rw [v] at he2
      exact he2.trans ⟨fun h => (List.cons.inj h).2, fun h => by rw [h]⟩)

theorem k_iAtomSame : SoundC Try.prog K_iAtomSame.1 K_iAtomSame.2 := sound_of hm (((CtxOK.nil.and k_slEqual).and k_EqualTerms).and k_iTermSame) (fun _ => []) (by kernel_rfl) fun x hl => (by
  rw [← vc_iAtomSame x]
  obtain ⟨s1, s2, s3, s4⟩ := SmA.parts (x := x.1) hl
  obtain ⟨⟨kind, A, B, nums, times, bound, strict⟩, kind', A', B', nums', times', bound', strict'⟩ := x
  dsimp only at *
  simp [-List.getD_eq_getElem?_getD, -List.mem_cons, -Bool.forall_bool, -Bool.exists_bool, and_assoc, peta, tl_inj, ex_1, ex_2, ex_3, ex_4, ex_5, ex_6, ex_7, ex_8, ex_9, ey_2, ey_3, ey_4, ey_5, ey_6, ey_7, ey_8, ey_9]
  repeat' (first | apply And.intro | intro _)
  all_goals first | contradiction | assumption | omega | (simp_all; done) | (cases strict <;> cases strict' <;> simp_all))

theorem k_xAtomSame : SoundC Try.prog K_xAtomSame.1 K_xAtomSame.2 := sound_of hm (((((CtxOK.nil.and k_eqAtom).and k_iAtomSame).and k_sAtomSame).and k_toAtom).and k_szAtom) (fun _ => []) (by kernel_rfl) fun x hl => (by
  rw [← vc_xAtomSame x]
  obtain ⟨m1, m2⟩ : MlA x.1 ∧ MlA x.2 := hl
  obtain ⟨⟨kind, A, B, nums, times, bound, strict⟩, kind', A', B', nums', times', bound', strict'⟩ := x
  dsimp only at *
  obtain ⟨a1, a2, ⟨a3, a4⟩, a5⟩ := m1
  obtain ⟨b1, b2, ⟨b3, b4⟩, b5⟩ := m2
  simp [-List.getD_eq_getElem?_getD, -List.mem_cons, -Bool.forall_bool, -Bool.exists_bool, and_assoc, peta, tl_inj, ex_1, ex_2, ex_3, ex_4, ex_5, ex_6, ex_7, ex_8, ex_9, ey_2, ey_3, ey_4, ey_5, ey_6, ey_7, ey_8, ey_9]
  refine ⟨a1, a2, a3, a4, a5, fun h => ?_⟩
  obtain ⟨p1, p2⟩ := lim_nonneg h
  refine ⟨b1, b2, b3, b4, b5, h, by omega, fun h2 => ?_⟩
  have p3 := (lim_nonneg h2).1
  and_intros <;> omega)

theorem sz1_lim (n : Nat) (k : Int) : sz1 n k = lim (k - n) := rfl
theorem k_szWhys (n : Nat) : SoundC Try.prog (K_szWhyS_ n).1 (K_szWhyS_ n).2 ∧ SoundC Try.prog (K_szWhy_ n).1 (K_szWhy_ n).2 := by
  induction n with
  | zero => exact ⟨sound_of hm CtxOK.nil (fun _ => []) (by kernel_rfl) fun x h => absurd h.2 (Nat.not_lt_zero _), sound_of hm CtxOK.nil (fun _ => []) (by kernel_rfl) fun x h => absurd h.2 (Nat.not_lt_zero _)⟩
  | succ n ih =>
    have h1 : SoundC Try.prog (K_szWhyS_ (n + 1)).1 (K_szWhyS_ (n + 1)).2 := sound_of hm (CtxOK.nil.and (K := K_szWhy_ n) ih.2) (fun x => A_szWhyS x.1 x.2) (by kernel_rfl) fun (x : List Wy × Int) hl => (by
      have hn : manyL x.1 < n + 1 := hl.2
      replace hl := hl.1
      rw [← vc_szWhyS_ n x]
      obtain ⟨⟨h1, h2⟩, h3, h4⟩ : (Ml x.1 ∧ ∀ t ∈ x.1, _) ∧ Fu x.2 := hl
      obtain ⟨l, k⟩ := x
      dsimp only at *
      rw [wrap_small (x := k - (l.length : Int)) (by omega) (by omega)]
      simp [-List.getD_eq_getElem?_getD, -List.mem_cons, -Bool.forall_bool, -Bool.exists_bool, and_assoc, peta, tl_inj, ex_1, ex_2, ex_3, ex_4, ex_5, ex_6, ex_7, ex_8, ex_9, ey_2, ey_3, ey_4, ey_5, ey_6, ey_7, ey_8, ey_9]
      refine ⟨fun h => (lim_of_neg (by omega)).symm, fun h => ⟨⟨0, by simp, by simp [costTrs]; omega, by simp [costTrs], rfl⟩, fun i hi hk => ⟨fun hlt => ?_, fun hge => ?_⟩⟩⟩
      · have ht := costTrs_take (f := costPW) dW hlt
        have hle := costTrs_take_le (f := costPW) l (i + 1)
        refine ⟨hlt, h2 _ (getD_mem dW hlt), hk, by omega, by have := many_kids (getD_mem dW hlt); omega, fun h5 => ?_, fun h5 => ?_⟩
        · exact (lim_of_neg (by have := (lim_neg h5).1; omega)).symm
        · obtain ⟨h6, h7⟩ := lim_nonneg h5
          exact ⟨i + 1, hlt, by omega, by omega, by rw [h7, ht]; omega, wrap_small (by omega) (by omega)⟩
      · rw [List.take_of_length_le hge] at hk ⊢
        exact (lim_of_nonneg (by omega)).symm.trans (by congr 1; omega))
    have h2 : SoundC Try.prog (K_szWhy_ (n + 1)).1 (K_szWhy_ (n + 1)).2 := sound_of hm ((CtxOK.nil.and (K := K_szWhyS_ (n + 1)) h1).and k_szT) (fun _ => []) (by kernel_rfl) fun (x : WP × Int) hl => (by
      have hn : manyL x.1.2 < n + 1 := hl.2
      replace hl := hl.1
      rw [← vc_szWhy_ (n + 1) x]
      obtain ⟨m, h3, h4⟩ : MlW (.mk x.1.1 x.1.2) ∧ Fu x.2 := hl
      obtain ⟨⟨⟨r1, n1, T1⟩, ks⟩, k⟩ := x
      obtain ⟨m1, m2⟩ := m.here
      have m3 : ∀ t ∈ ks, MlW t := fun t ht => m.kid ht
      dsimp only [Tree.val, Tree.kids] at *
      simp [-List.getD_eq_getElem?_getD, -List.mem_cons, -Bool.forall_bool, -Bool.exists_bool, and_assoc, peta, tl_inj, ex_1, ex_2, ex_3, ex_4, ex_5, ex_6, ex_7, ex_8, ex_9, ey_2, ey_3, ey_4, ey_5, ey_6, ey_7, ey_8, ey_9]
      have e : k - (costTr costPW (.mk (r1, n1, T1) ks) : Int) = k - costT (.mk T1.1 T1.2) - (ks.length + costTrs costPW ks) := by rw [costTr_eq]; simp only [Tree.val, Tree.kids, costPW]; omega
      rw [e]
      have neg : ∀ y : Int, y < 0 → k - costT (.mk T1.1 T1.2) - (ks.length + costTrs costPW ks) ≤ y → (-1 : Int) = lim (k - costT (.mk T1.1 T1.2) - (ks.length + costTrs costPW ks)) := fun y h h' => (lim_of_neg (by omega)).symm
      refine ⟨m1, h3, h4, fun h => neg _ (lim_neg h).1 (by omega), fun h => ?_⟩
      obtain ⟨p0, e0⟩ := lim_nonneg h
      rw [e0]
      exact ⟨m2, m3, p0, by omega, hn, fun h => (lim_neg h).2.symm, fun _ => rfl⟩)
    exact ⟨h1, h2⟩

theorem k_toWhys (n : Nat) : SoundC Try.prog (K_toWhyS_ n).1 (K_toWhyS_ n).2 ∧ SoundC Try.prog (K_toWhy_ n).1 (K_toWhy_ n).2 := by
  induction n with
  | zero => exact ⟨sound_of hm CtxOK.nil (fun _ => []) (by kernel_rfl) fun x h => absurd h.2 (Nat.not_lt_zero _), sound_of hm CtxOK.nil (fun _ => []) (by kernel_rfl) fun x h => absurd h.2 (Nat.not_lt_zero _)⟩
  | succ n ih =>
    have h1 : SoundC Try.prog (K_toWhyS_ (n + 1)).1 (K_toWhyS_ (n + 1)).2 := sound_of hm (CtxOK.nil.and (K := K_toWhy_ n) ih.2) (fun x => A_toWhyS x) (by kernel_rfl) fun (x : List Wy) hl => (by
      have hn : manyL x < n + 1 := hl.2
      replace hl := hl.1
      rw [← vc_toWhyS_ n x]
      have hl : SmTrs costPW x := hl
      simp [-List.getD_eq_getElem?_getD, -List.mem_cons, -Bool.forall_bool, -Bool.exists_bool, and_assoc, peta, tl_inj, ex_1, ex_2, ex_3, ex_4, ex_5, ex_6, ex_7, ex_8, ex_9, ey_2, ey_3, ey_4, ey_5, ey_6, ey_7, ey_8, ey_9]
      have hlen := hl.len
      refine ⟨by omega, by omega, ⟨0, by simp, List.replicate x.length dW, by simp, by simp, by simp, by simp, whys_make⟩, fun k b hk hb ht => ⟨fun hlt => ⟨hlt, hl.mem (getD_mem dW hlt), by have := many_kids (getD_mem dW hlt); omega, by omega, k + 1, hlt, b.set k (x.getD k dW), by simp [hb], copy_step dW hlt hb ht, by omega, by simp, wrap_small (by omega) (by omega), ?_⟩, fun hge => copy_end hge hb ht⟩⟩
      have := @whys_set b k (x.getD k dW).val (x.getD k dW).kids
      rw [Tree.eta] at this
      exact this)
    have h2 : SoundC Try.prog (K_toWhy_ (n + 1)).1 (K_toWhy_ (n + 1)).2 := sound_of hm ((CtxOK.nil.and (K := K_toWhyS_ (n + 1)) h1).and k_toT) (fun _ => []) (by kernel_rfl) fun (x : WP) hl => (by
      have hn : manyL x.2 < n + 1 := hl.2
      replace hl := hl.1
      rw [← vc_toWhy_ (n + 1) x]
      have hl : SmTr costPW (.mk x.1 x.2) := hl
      obtain ⟨⟨r1, n1, T1⟩, ks⟩ := x
      have sk := hl.kids
      have sv := hl.here
      dsimp only at *
      simp [-List.getD_eq_getElem?_getD, -List.mem_cons, -Bool.forall_bool, -Bool.exists_bool, and_assoc, peta, tl_inj, ex_1, ex_2, ex_3, ex_4, ex_5, ex_6, ex_7, ex_8, ex_9, ey_2, ey_3, ey_4, ey_5, ey_6, ey_7, ey_8, ey_9]
      exact ⟨sv, sk, hn⟩)
    exact ⟨h1, h2⟩

theorem k_eqWhys (n : Nat) : SoundC Try.prog (K_eqWhyS_ n).1 (K_eqWhyS_ n).2 ∧ SoundC Try.prog (K_eqWhy_ n).1 (K_eqWhy_ n).2 := by
  induction n with
  | zero => exact ⟨sound_of hm CtxOK.nil (fun _ => []) (by kernel_rfl) fun x h => absurd h.2 (Nat.not_lt_zero _), sound_of hm CtxOK.nil (fun _ => []) (by kernel_rfl) fun x h => absurd h.2 (Nat.not_lt_zero _)⟩
  | succ n ih =>
    have h1 : SoundC Try.prog (K_eqWhyS_ (n + 1)).1 (K_eqWhyS_ (n + 1)).2 := sound_of hm (CtxOK.nil.and (K := K_eqWhy_ n) ih.2) (fun x => A_eqWhyS x.1 x.2) (by kernel_rfl) fun (x : List Wy × List Wy) hl => (by
      have hn : manyL x.1 < n + 1 := hl.2
      replace hl := hl.1
      rw [← vc_eqWhyS_ n x]
      have hl : SmTrs costPW x.1 := hl
      obtain ⟨l, m⟩ := x
      dsimp only at *
      simp [-List.getD_eq_getElem?_getD, -List.mem_cons, -Bool.forall_bool, -Bool.exists_bool, and_assoc, peta, tl_inj, ex_1, ex_2, ex_3, ex_4, ex_5, ex_6, ex_7, ex_8, ex_9, ey_2, ey_3, ey_4, ey_5, ey_6, ey_7, ey_8, ey_9]
      have hlen := hl.len
      simp only [tpart]
      refine ⟨fun h e => h (by rw [e]), fun h => ⟨⟨0, by simp; omega⟩, fun k hk hlm he => ⟨fun hlt => ⟨hlt, by omega, hl.mem (getD_mem dW hlt), by have := many_kids (getD_mem dW hlt); omega, (eq_step dW hlt hlm he).1, fun h => ⟨k + 1, hlt, hlm, (eq_step dW hlt hlm he).2 h, by omega, wrap_small (by omega) (by omega)⟩⟩, fun hge => ?_⟩⟩⟩
      rw [drop_end (by omega), drop_end (l := m) (by omega)] at he
      exact he.2 rfl)
    have h2 : SoundC Try.prog (K_eqWhy_ (n + 1)).1 (K_eqWhy_ (n + 1)).2 := sound_of hm ((CtxOK.nil.and (K := K_eqWhyS_ (n + 1)) h1).and k_eqT) (fun _ => []) (by kernel_rfl) fun (x : WP × WP) hl => (by
      have hn : manyL x.1.2 < n + 1 := hl.2
      replace hl := hl.1
      rw [← vc_eqWhy_ (n + 1) x]
      have hl : SmTr costPW (.mk x.1.1 x.1.2) := hl
      obtain ⟨⟨⟨r1, n1, T1⟩, ks⟩, ⟨r2, n2, T2⟩, ks'⟩ := x
      have sT : costT (Tree.mk T1.fst T1.snd) ≤ 1048576 := hl.here
      dsimp only at *
      have sk := hl.kids
      have sv := hl.here

      simp [-List.getD_eq_getElem?_getD, -List.mem_cons, -Bool.forall_bool, -Bool.exists_bool, and_assoc, peta, tl_inj, ex_1, ex_2, ex_3, ex_4, ex_5, ex_6, ex_7, ex_8, ex_9, ey_2, ey_3, ey_4, ey_5, ey_6, ey_7, ey_8, ey_9]
      repeat' (first | apply And.intro | intro _)
      all_goals first | contradiction | assumption | omega | (simp_all; done))
    exact ⟨h1, h2⟩

theorem k_iWhySames (n : Nat) : SoundC Try.prog (K_EqualWhy_ n).1 (K_EqualWhy_ n).2 ∧ SoundC Try.prog (K_iWhySame_ n).1 (K_iWhySame_ n).2 := by
  induction n with
  | zero => exact ⟨sound_of hm CtxOK.nil (fun _ => []) (by kernel_rfl) fun x h => absurd h.2 (Nat.not_lt_zero _), sound_of hm CtxOK.nil (fun _ => []) (by kernel_rfl) fun x h => absurd h.2 (Nat.not_lt_zero _)⟩
  | succ n ih =>
    have h1 : SoundC Try.prog (K_EqualWhy_ (n + 1)).1 (K_EqualWhy_ (n + 1)).2 := sound_of hm (CtxOK.nil.and (K := K_iWhySame_ n) ih.2) (fun x => A_EqualWhy x.1 x.2) (by kernel_rfl) fun (x : List Wy × List Wy) hl => (by
      have hn : manyL x.1 < n + 1 := hl.2
      replace hl := hl.1
      rw [← vc_EqualWhy_ n x]
      have hl : SmTrs costPW x.1 := hl
      obtain ⟨l, m⟩ := x
      dsimp only at *
      simp [-List.getD_eq_getElem?_getD, -List.mem_cons, -Bool.forall_bool, -Bool.exists_bool, and_assoc, peta, tl_inj, ex_1, ex_2, ex_3, ex_4, ex_5, ex_6, ex_7, ex_8, ex_9, ey_2, ey_3, ey_4, ey_5, ey_6, ey_7, ey_8, ey_9]
      have hlen := hl.len
      simp only [tpart]
      refine ⟨fun h e => h (by rw [e]), fun h => ⟨⟨0, by simp; omega⟩, fun k hk hlm he => ⟨fun hlt => ⟨hlt, by omega, hl.mem (getD_mem dW hlt), by have := many_kids (getD_mem dW hlt); omega, (eq_step dW hlt hlm he).1, fun h => ⟨k + 1, hlt, hlm, (eq_step dW hlt hlm he).2 h, by omega, wrap_small (by omega) (by omega)⟩⟩, fun hge => ?_⟩⟩⟩
      rw [drop_end (by omega), drop_end (l := m) (by omega)] at he
      exact he.2 rfl)
    have h2 : SoundC Try.prog (K_iWhySame_ (n + 1)).1 (K_iWhySame_ (n + 1)).2 := sound_of hm ((CtxOK.nil.and (K := K_EqualWhy_ (n + 1)) h1).and k_iTermSame) (fun _ => []) (by kernel_rfl) fun (x : WP × WP) hl => (by
      have hn : manyL x.1.2 < n + 1 := hl.2
      replace hl := hl.1
      rw [← vc_iWhySame_ (n + 1) x]
      have hl : SmTr costPW (.mk x.1.1 x.1.2) := hl
      obtain ⟨⟨⟨r1, n1, T1⟩, ks⟩, ⟨r2, n2, T2⟩, ks'⟩ := x
      have sT : costT (Tree.mk T1.fst T1.snd) ≤ 1048576 := hl.here
      dsimp only at *
      have sk := hl.kids
      have sv := hl.here

      simp [-List.getD_eq_getElem?_getD, -List.mem_cons, -Bool.forall_bool, -Bool.exists_bool, and_assoc, peta, tl_inj, ex_1, ex_2, ex_3, ex_4, ex_5, ex_6, ex_7, ex_8, ex_9, ey_2, ey_3, ey_4, ey_5, ey_6, ey_7, ey_8, ey_9]
      repeat' (first | apply And.intro | intro _)
      all_goals first | contradiction | assumption | omega | (simp_all; done))
    exact ⟨h1, h2⟩

theorem k_sWhySame_ (n : Nat) : SoundC Try.prog (K_sWhySame_ n).1 (K_sWhySame_ n).2 := by
  induction n with
  | zero => exact sound_of hm CtxOK.nil (fun _ => []) (by kernel_rfl) fun x h => absurd h.2 (Nat.not_lt_zero _)
  | succ n ih => exact sound_of hm ((CtxOK.nil.and (K := K_sWhySame_ n) ih).and k_sTermSame) (fun x => A_sWhySame x.1 x.2) (by kernel_rfl) fun x hl => (by
      have hn : manyL x.1.2 < n + 1 := hl.2
      replace hl := hl.1
      rw [← vc_sWhySame_ n x]
      have hl : SmTr costPW (.mk x.1.1 x.1.2) := hl
      obtain ⟨⟨⟨r1, n1, T1⟩, ks⟩, ⟨r2, n2, T2⟩, ks'⟩ := x
      have sT : costT (Tree.mk T1.fst T1.snd) ≤ 1048576 := hl.here
      dsimp only at *
      have sk := hl.kids
      have sv := hl.here
      simp [-List.getD_eq_getElem?_getD, -List.mem_cons, -Bool.forall_bool, -Bool.exists_bool, and_assoc, peta, tl_inj, ex_1, ex_2, ex_3, ex_4, ex_5, ex_6, ex_7, ex_8, ex_9, ey_2, ey_3, ey_4, ey_5, ey_6, ey_7, ey_8, ey_9]
      have hlen := sk.len
      refine ⟨(by intros; contradiction), fun e0 => ⟨(by intros; contradiction), fun e1 => ⟨sT, (by intros; contradiction), fun e2 => ⟨(by intro h; intros; intro hk; exact h (by rw [hk])), fun el => ⟨⟨0, by simp, by omega, (by assumption), (by assumption), (by assumption), by simp, rfl⟩, fun k hk hlm a0 a1 a2 he => ⟨fun hlt => ⟨hlt, by omega, sk.mem (getD_mem dW hlt), by have := many_kids (getD_mem dW hlt); omega, fun h _ _ _ => (eq_step dW hlt hlm he).1 (tpart.1 h), fun v1 v2 => ⟨k + 1, hlt, hlm, a0, a1, a2, (eq_step dW hlt hlm he).2 (Tree.ext v1 v2), by omega, wrap_small (by omega) (by omega)⟩⟩, fun hge => ⟨a0, a1, a2, ?_⟩⟩⟩⟩⟩⟩⟩
      rw [drop_end (by omega), drop_end (l := ks') (by omega)] at he
      exact he.2 rfl)

theorem k_szWhy : SoundC Try.prog K_szWhy.1 K_szWhy.2 := SoundC.fam (fun x => manyL x.1.2) fun n => (k_szWhys n).2
theorem k_szWhyS : SoundC Try.prog K_szWhyS.1 K_szWhyS.2 := SoundC.fam (fun x => manyL x.1) fun n => (k_szWhys n).1
theorem k_toWhy : SoundC Try.prog K_toWhy.1 K_toWhy.2 := SoundC.famI (fun x => manyL x.2) fun n => (k_toWhys n).2
theorem k_toWhyS : SoundC Try.prog K_toWhyS.1 K_toWhyS.2 := SoundC.famI (fun x => manyL x) fun n => (k_toWhys n).1
theorem k_eqWhy : SoundC Try.prog K_eqWhy.1 K_eqWhy.2 := SoundC.fam (fun x => manyL x.1.2) fun n => (k_eqWhys n).2
theorem k_eqWhyS : SoundC Try.prog K_eqWhyS.1 K_eqWhyS.2 := SoundC.fam (fun x => manyL x.1) fun n => (k_eqWhys n).1
theorem k_iWhySame : SoundC Try.prog K_iWhySame.1 K_iWhySame.2 := SoundC.fam (fun x => manyL x.1.2) fun n => (k_iWhySames n).2
theorem k_EqualWhy : SoundC Try.prog K_EqualWhy.1 K_EqualWhy.2 := SoundC.fam (fun x => manyL x.1) fun n => (k_iWhySames n).1
theorem k_sWhySame : SoundC Try.prog K_sWhySame.1 K_sWhySame.2 := SoundC.fam (fun x => manyL x.1.2) fun n => k_sWhySame_ n
theorem k_szForms (n : Nat) : SoundC Try.prog (K_szFormS_ n).1 (K_szFormS_ n).2 ∧ SoundC Try.prog (K_szForm_ n).1 (K_szForm_ n).2 := by
  induction n with
  | zero => exact ⟨sound_of hm CtxOK.nil (fun _ => []) (by kernel_rfl) fun x h => absurd h.2 (Nat.not_lt_zero _), sound_of hm CtxOK.nil (fun _ => []) (by kernel_rfl) fun x h => absurd h.2 (Nat.not_lt_zero _)⟩
  | succ n ih =>
    have h1 : SoundC Try.prog (K_szFormS_ (n + 1)).1 (K_szFormS_ (n + 1)).2 := sound_of hm (CtxOK.nil.and (K := K_szForm_ n) ih.2) (fun x => A_szFormS x.1 x.2) (by kernel_rfl) fun (x : List Frm × Int) hl => (by
      have hn : manyL x.1 < n + 1 := hl.2
      replace hl := hl.1
      rw [← vc_szFormS_ n x]
      obtain ⟨⟨h1, h2⟩, h3, h4⟩ : (Ml x.1 ∧ ∀ t ∈ x.1, _) ∧ Fu x.2 := hl
      obtain ⟨l, k⟩ := x
      dsimp only at *
      rw [wrap_small (x := k - (l.length : Int)) (by omega) (by omega)]
      simp [-List.getD_eq_getElem?_getD, -List.mem_cons, -Bool.forall_bool, -Bool.exists_bool, and_assoc, peta, tl_inj, ex_1, ex_2, ex_3, ex_4, ex_5, ex_6, ex_7, ex_8, ex_9, ey_2, ey_3, ey_4, ey_5, ey_6, ey_7, ey_8, ey_9]
      refine ⟨fun h => (lim_of_neg (by omega)).symm, fun h => ⟨⟨0, by simp, by simp [costTrs]; omega, by simp [costTrs], rfl⟩, fun i hi hk => ⟨fun hlt => ?_, fun hge => ?_⟩⟩⟩
      · have ht := costTrs_take (f := costPF) dF hlt
        have hle := costTrs_take_le (f := costPF) l (i + 1)
        refine ⟨hlt, h2 _ (getD_mem dF hlt), hk, by omega, by have := many_kids (getD_mem dF hlt); omega, fun h5 => ?_, fun h5 => ?_⟩
        · exact (lim_of_neg (by have := (lim_neg h5).1; omega)).symm
        · obtain ⟨h6, h7⟩ := lim_nonneg h5
          exact ⟨i + 1, hlt, by omega, by omega, by rw [h7, ht]; omega, wrap_small (by omega) (by omega)⟩
      · rw [List.take_of_length_le hge] at hk ⊢
        exact (lim_of_nonneg (by omega)).symm.trans (by congr 1; omega))
    have h2 : SoundC Try.prog (K_szForm_ (n + 1)).1 (K_szForm_ (n + 1)).2 := sound_of hm ((CtxOK.nil.and (K := K_szFormS_ (n + 1)) h1).and k_szLit) (fun _ => []) (by kernel_rfl) fun (x : FP × Int) hl => (by
      have hn : manyL x.1.2 < n + 1 := hl.2
      replace hl := hl.1
      rw [← vc_szForm_ (n + 1) x]
      obtain ⟨m, h3, h4⟩ : MlF (.mk x.1.1 x.1.2) ∧ Fu x.2 := hl
      obtain ⟨⟨⟨kind, a, no⟩, ks⟩, k⟩ := x
      obtain ⟨⟨q1, q2, ⟨q3, q4⟩, q5⟩, m2⟩ := m.here
      have m3 : ∀ t ∈ ks, MlF t := fun t ht => m.kid ht
      dsimp only [Tree.val, Tree.kids] at *
      simp [-List.getD_eq_getElem?_getD, -List.mem_cons, -Bool.forall_bool, -Bool.exists_bool, and_assoc, peta, tl_inj, ex_1, ex_2, ex_3, ex_4, ex_5, ex_6, ex_7, ex_8, ex_9, ey_2, ey_3, ey_4, ey_5, ey_6, ey_7, ey_8, ey_9]
      have e : k - (costTr costPF (.mk (kind, a, no) ks) : Int) = k - costA a - (ks.length + costTrs costPF ks) := by rw [costTr_eq]; simp only [Tree.val, Tree.kids, costPF, costL]; omega
      rw [e]
      simp only [costL]
      have neg : ∀ y : Int, y < 0 → k - costA a - (ks.length + costTrs costPF ks) ≤ y → (-1 : Int) = lim (k - costA a - (ks.length + costTrs costPF ks)) := fun y h h' => (lim_of_neg (by omega)).symm
      refine ⟨q1, q2, q3, q4, q5, h3, h4, fun h => neg _ (lim_neg h).1 (by omega), fun h => ?_⟩
      obtain ⟨p0, e0⟩ := lim_nonneg h
      rw [e0]
      exact ⟨m2, m3, p0, by omega, hn, fun h => (lim_neg h).2.symm, fun _ => rfl⟩)
    exact ⟨h1, h2⟩

theorem k_toForms (n : Nat) : SoundC Try.prog (K_toFormS_ n).1 (K_toFormS_ n).2 ∧ SoundC Try.prog (K_toForm_ n).1 (K_toForm_ n).2 := by
  induction n with
  | zero => exact ⟨sound_of hm CtxOK.nil (fun _ => []) (by kernel_rfl) fun x h => absurd h.2 (Nat.not_lt_zero _), sound_of hm CtxOK.nil (fun _ => []) (by kernel_rfl) fun x h => absurd h.2 (Nat.not_lt_zero _)⟩
  | succ n ih =>
    have h1 : SoundC Try.prog (K_toFormS_ (n + 1)).1 (K_toFormS_ (n + 1)).2 := sound_of hm (CtxOK.nil.and (K := K_toForm_ n) ih.2) (fun x => A_toFormS x) (by kernel_rfl) fun (x : List Frm) hl => (by
      have hn : manyL x < n + 1 := hl.2
      replace hl := hl.1
      rw [← vc_toFormS_ n x]
      have hl : SmTrs costPF x := hl
      simp [-List.getD_eq_getElem?_getD, -List.mem_cons, -Bool.forall_bool, -Bool.exists_bool, and_assoc, peta, tl_inj, ex_1, ex_2, ex_3, ex_4, ex_5, ex_6, ex_7, ex_8, ex_9, ey_2, ey_3, ey_4, ey_5, ey_6, ey_7, ey_8, ey_9]
      have hlen := hl.len
      refine ⟨by omega, by omega, ⟨0, by simp, List.replicate x.length dF, by simp, by simp, by simp, by simp, forms_make⟩, fun k b hk hb ht => ⟨fun hlt => ⟨hlt, hl.mem (getD_mem dF hlt), by have := many_kids (getD_mem dF hlt); omega, by omega, k + 1, hlt, b.set k (x.getD k dF), by simp [hb], copy_step dF hlt hb ht, by omega, by simp, wrap_small (by omega) (by omega), ?_⟩, fun hge => copy_end hge hb ht⟩⟩
      have := @forms_set b k (x.getD k dF).val (x.getD k dF).kids
      rw [Tree.eta] at this
      exact this)
    have h2 : SoundC Try.prog (K_toForm_ (n + 1)).1 (K_toForm_ (n + 1)).2 := sound_of hm ((CtxOK.nil.and (K := K_toFormS_ (n + 1)) h1).and k_toLit) (fun _ => []) (by kernel_rfl) fun (x : FP) hl => (by
      have hn : manyL x.2 < n + 1 := hl.2
      replace hl := hl.1
      rw [← vc_toForm_ (n + 1) x]
      have hl : SmTr costPF (.mk x.1 x.2) := hl
      obtain ⟨⟨kind, a, no⟩, ks⟩ := x
      have sk := hl.kids
      have sv := hl.here
      dsimp only at *
      simp [-List.getD_eq_getElem?_getD, -List.mem_cons, -Bool.forall_bool, -Bool.exists_bool, and_assoc, peta, tl_inj, ex_1, ex_2, ex_3, ex_4, ex_5, ex_6, ex_7, ex_8, ex_9, ey_2, ey_3, ey_4, ey_5, ey_6, ey_7, ey_8, ey_9]
      exact ⟨sv, sk, hn⟩)
    exact ⟨h1, h2⟩

theorem k_eqForms (n : Nat) : SoundC Try.prog (K_eqFormS_ n).1 (K_eqFormS_ n).2 ∧ SoundC Try.prog (K_eqForm_ n).1 (K_eqForm_ n).2 := by
  induction n with
  | zero => exact ⟨sound_of hm CtxOK.nil (fun _ => []) (by kernel_rfl) fun x h => absurd h.2 (Nat.not_lt_zero _), sound_of hm CtxOK.nil (fun _ => []) (by kernel_rfl) fun x h => absurd h.2 (Nat.not_lt_zero _)⟩
  | succ n ih =>
    have h1 : SoundC Try.prog (K_eqFormS_ (n + 1)).1 (K_eqFormS_ (n + 1)).2 := sound_of hm (CtxOK.nil.and (K := K_eqForm_ n) ih.2) (fun x => A_eqFormS x.1 x.2) (by kernel_rfl) fun (x : List Frm × List Frm) hl => (by
      have hn : manyL x.1 < n + 1 := hl.2
      replace hl := hl.1
      rw [← vc_eqFormS_ n x]
      have hl : SmTrs costPF x.1 := hl
      obtain ⟨l, m⟩ := x
      dsimp only at *
      simp [-List.getD_eq_getElem?_getD, -List.mem_cons, -Bool.forall_bool, -Bool.exists_bool, and_assoc, peta, tl_inj, ex_1, ex_2, ex_3, ex_4, ex_5, ex_6, ex_7, ex_8, ex_9, ey_2, ey_3, ey_4, ey_5, ey_6, ey_7, ey_8, ey_9]
      have hlen := hl.len
      simp only [tpart]
      refine ⟨fun h e => h (by rw [e]), fun h => ⟨⟨0, by simp; omega⟩, fun k hk hlm he => ⟨fun hlt => ⟨hlt, by omega, hl.mem (getD_mem dF hlt), by have := many_kids (getD_mem dF hlt); omega, (eq_step dF hlt hlm he).1, fun h => ⟨k + 1, hlt, hlm, (eq_step dF hlt hlm he).2 h, by omega, wrap_small (by omega) (by omega)⟩⟩, fun hge => ?_⟩⟩⟩
      rw [drop_end (by omega), drop_end (l := m) (by omega)] at he
      exact he.2 rfl)
    have h2 : SoundC Try.prog (K_eqForm_ (n + 1)).1 (K_eqForm_ (n + 1)).2 := sound_of hm ((CtxOK.nil.and (K := K_eqFormS_ (n + 1)) h1).and k_eqLit) (fun _ => []) (by kernel_rfl) fun (x : FP × FP) hl => (by
      have hn : manyL x.1.2 < n + 1 := hl.2
      replace hl := hl.1
      rw [← vc_eqForm_ (n + 1) x]
      have hl : SmTr costPF (.mk x.1.1 x.1.2) := hl
      obtain ⟨⟨⟨kind, a, no⟩, ks⟩, ⟨kind', a', no'⟩, ks'⟩ := x
      have sA : costA a ≤ 1048576 := hl.here
      dsimp only at *
      have sk := hl.kids
      have sv := hl.here

      simp [-List.getD_eq_getElem?_getD, -List.mem_cons, -Bool.forall_bool, -Bool.exists_bool, and_assoc, peta, tl_inj, ex_1, ex_2, ex_3, ex_4, ex_5, ex_6, ex_7, ex_8, ex_9, ey_2, ey_3, ey_4, ey_5, ey_6, ey_7, ey_8, ey_9]
      repeat' (first | apply And.intro | intro _)
      all_goals first | contradiction | assumption | omega | (simp_all; done))
    exact ⟨h1, h2⟩

theorem k_iFormSames (n : Nat) : SoundC Try.prog (K_EqualForm_ n).1 (K_EqualForm_ n).2 ∧ SoundC Try.prog (K_iFormSame_ n).1 (K_iFormSame_ n).2 := by
  induction n with
  | zero => exact ⟨sound_of hm CtxOK.nil (fun _ => []) (by kernel_rfl) fun x h => absurd h.2 (Nat.not_lt_zero _), sound_of hm CtxOK.nil (fun _ => []) (by kernel_rfl) fun x h => absurd h.2 (Nat.not_lt_zero _)⟩
  | succ n ih =>
    have h1 : SoundC Try.prog (K_EqualForm_ (n + 1)).1 (K_EqualForm_ (n + 1)).2 := sound_of hm (CtxOK.nil.and (K := K_iFormSame_ n) ih.2) (fun x => A_EqualForm x.1 x.2) (by kernel_rfl) fun (x : List Frm × List Frm) hl => (by
      have hn : manyL x.1 < n + 1 := hl.2
      replace hl := hl.1
      rw [← vc_EqualForm_ n x]
      have hl : SmTrs costPF x.1 := hl
      obtain ⟨l, m⟩ := x
      dsimp only at *
      simp [-List.getD_eq_getElem?_getD, -List.mem_cons, -Bool.forall_bool, -Bool.exists_bool, and_assoc, peta, tl_inj, ex_1, ex_2, ex_3, ex_4, ex_5, ex_6, ex_7, ex_8, ex_9, ey_2, ey_3, ey_4, ey_5, ey_6, ey_7, ey_8, ey_9]
      have hlen := hl.len
      simp only [tpart]
      refine ⟨fun h e => h (by rw [e]), fun h => ⟨⟨0, by simp; omega⟩, fun k hk hlm he => ⟨fun hlt => ⟨hlt, by omega, hl.mem (getD_mem dF hlt), by have := many_kids (getD_mem dF hlt); omega, (eq_step dF hlt hlm he).1, fun h => ⟨k + 1, hlt, hlm, (eq_step dF hlt hlm he).2 h, by omega, wrap_small (by omega) (by omega)⟩⟩, fun hge => ?_⟩⟩⟩
      rw [drop_end (by omega), drop_end (l := m) (by omega)] at he
      exact he.2 rfl)
    have h2 : SoundC Try.prog (K_iFormSame_ (n + 1)).1 (K_iFormSame_ (n + 1)).2 := sound_of hm ((CtxOK.nil.and (K := K_EqualForm_ (n + 1)) h1).and k_iAtomSame) (fun _ => []) (by kernel_rfl) fun (x : FP × FP) hl => (by
      have hn : manyL x.1.2 < n + 1 := hl.2
      replace hl := hl.1
      rw [← vc_iFormSame_ (n + 1) x]
      have hl : SmTr costPF (.mk x.1.1 x.1.2) := hl
      obtain ⟨⟨⟨kind, a, no⟩, ks⟩, ⟨kind', a', no'⟩, ks'⟩ := x
      have sA : costA a ≤ 1048576 := hl.here
      dsimp only at *
      have sk := hl.kids
      have sv := hl.here

      simp [-List.getD_eq_getElem?_getD, -List.mem_cons, -Bool.forall_bool, -Bool.exists_bool, and_assoc, peta, tl_inj, ex_1, ex_2, ex_3, ex_4, ex_5, ex_6, ex_7, ex_8, ex_9, ey_2, ey_3, ey_4, ey_5, ey_6, ey_7, ey_8, ey_9]
      repeat' (first | apply And.intro | intro _)
      all_goals first | contradiction | assumption | omega | (simp_all; done))
    exact ⟨h1, h2⟩

theorem k_sFormSame_ (n : Nat) : SoundC Try.prog (K_sFormSame_ n).1 (K_sFormSame_ n).2 := by
  induction n with
  | zero => exact sound_of hm CtxOK.nil (fun _ => []) (by kernel_rfl) fun x h => absurd h.2 (Nat.not_lt_zero _)
  | succ n ih => exact sound_of hm ((CtxOK.nil.and (K := K_sFormSame_ n) ih).and k_sAtomSame) (fun x => A_sFormSame x.1 x.2) (by kernel_rfl) fun x hl => (by
      have hn : manyL x.1.2 < n + 1 := hl.2
      replace hl := hl.1
      rw [← vc_sFormSame_ n x]
      have hl : SmTr costPF (.mk x.1.1 x.1.2) := hl
      obtain ⟨⟨⟨kind, a, no⟩, ks⟩, ⟨kind', a', no'⟩, ks'⟩ := x
      have sA : costA a ≤ 1048576 := hl.here
      dsimp only at *
      have sk := hl.kids
      have sv := hl.here
      simp [-List.getD_eq_getElem?_getD, -List.mem_cons, -Bool.forall_bool, -Bool.exists_bool, and_assoc, peta, tl_inj, ex_1, ex_2, ex_3, ex_4, ex_5, ex_6, ex_7, ex_8, ex_9, ey_2, ey_3, ey_4, ey_5, ey_6, ey_7, ey_8, ey_9]
      have hlen := sk.len
      refine ⟨(by intros; contradiction), fun e0 => ⟨(by intros; contradiction), fun e1 => ⟨sA, (by intros; contradiction), fun e2 => ⟨(by intro h; intros; intro hk; exact h (by rw [hk])), fun el => ⟨⟨0, by simp, by omega, (by assumption), (by assumption), (by assumption), by simp, rfl⟩, fun k hk hlm a0 a1 a2 he => ⟨fun hlt => ⟨hlt, by omega, sk.mem (getD_mem dF hlt), by have := many_kids (getD_mem dF hlt); omega, fun h _ _ _ => (eq_step dF hlt hlm he).1 (tpart.1 h), fun v1 v2 => ⟨k + 1, hlt, hlm, a0, a1, a2, (eq_step dF hlt hlm he).2 (Tree.ext v1 v2), by omega, wrap_small (by omega) (by omega)⟩⟩, fun hge => ⟨a0, a1, a2, ?_⟩⟩⟩⟩⟩⟩⟩
      rw [drop_end (by omega), drop_end (l := ks') (by omega)] at he
      exact he.2 rfl)

theorem k_szForm : SoundC Try.prog K_szForm.1 K_szForm.2 := SoundC.fam (fun x => manyL x.1.2) fun n => (k_szForms n).2
theorem k_szFormS : SoundC Try.prog K_szFormS.1 K_szFormS.2 := SoundC.fam (fun x => manyL x.1) fun n => (k_szForms n).1
theorem k_toForm : SoundC Try.prog K_toForm.1 K_toForm.2 := SoundC.famI (fun x => manyL x.2) fun n => (k_toForms n).2
theorem k_toFormS : SoundC Try.prog K_toFormS.1 K_toFormS.2 := SoundC.famI (fun x => manyL x) fun n => (k_toForms n).1
theorem k_eqForm : SoundC Try.prog K_eqForm.1 K_eqForm.2 := SoundC.fam (fun x => manyL x.1.2) fun n => (k_eqForms n).2
theorem k_eqFormS : SoundC Try.prog K_eqFormS.1 K_eqFormS.2 := SoundC.fam (fun x => manyL x.1) fun n => (k_eqForms n).1
theorem k_iFormSame : SoundC Try.prog K_iFormSame.1 K_iFormSame.2 := SoundC.fam (fun x => manyL x.1.2) fun n => (k_iFormSames n).2
theorem k_EqualForm : SoundC Try.prog K_EqualForm.1 K_EqualForm.2 := SoundC.fam (fun x => manyL x.1) fun n => (k_iFormSames n).1
theorem k_sFormSame : SoundC Try.prog K_sFormSame.1 K_sFormSame.2 := SoundC.fam (fun x => manyL x.1.2) fun n => k_sFormSame_ n
theorem k_szCases (n : Nat) : SoundC Try.prog (K_szCaseS_ n).1 (K_szCaseS_ n).2 ∧ SoundC Try.prog (K_szCase_ n).1 (K_szCase_ n).2 := by
  induction n with
  | zero => exact ⟨sound_of hm CtxOK.nil (fun _ => []) (by kernel_rfl) fun x h => absurd h.2 (Nat.not_lt_zero _), sound_of hm CtxOK.nil (fun _ => []) (by kernel_rfl) fun x h => absurd h.2 (Nat.not_lt_zero _)⟩
  | succ n ih =>
    have h1 : SoundC Try.prog (K_szCaseS_ (n + 1)).1 (K_szCaseS_ (n + 1)).2 := sound_of hm (CtxOK.nil.and (K := K_szCase_ n) ih.2) (fun x => A_szCaseS x.1 x.2) (by kernel_rfl) fun (x : List Cse × Int) hl => (by
      have hn : manyL x.1 < n + 1 := hl.2
      replace hl := hl.1
      rw [← vc_szCaseS_ n x]
      obtain ⟨⟨h1, h2⟩, h3, h4⟩ : (Ml x.1 ∧ ∀ t ∈ x.1, _) ∧ Fu x.2 := hl
      obtain ⟨l, k⟩ := x
      dsimp only at *
      rw [wrap_small (x := k - (l.length : Int)) (by omega) (by omega)]
      simp [-List.getD_eq_getElem?_getD, -List.mem_cons, -Bool.forall_bool, -Bool.exists_bool, and_assoc, peta, tl_inj, ex_1, ex_2, ex_3, ex_4, ex_5, ex_6, ex_7, ex_8, ex_9, ey_2, ey_3, ey_4, ey_5, ey_6, ey_7, ey_8, ey_9]
      refine ⟨fun h => (lim_of_neg (by omega)).symm, fun h => ⟨⟨0, by simp, by simp [costTrs]; omega, by simp [costTrs], rfl⟩, fun i hi hk => ⟨fun hlt => ?_, fun hge => ?_⟩⟩⟩
      · have ht := costTrs_take (f := costPC) dC hlt
        have hle := costTrs_take_le (f := costPC) l (i + 1)
        refine ⟨hlt, h2 _ (getD_mem dC hlt), hk, by omega, by have := many_kids (getD_mem dC hlt); omega, fun h5 => ?_, fun h5 => ?_⟩
        · exact (lim_of_neg (by have := (lim_neg h5).1; omega)).symm
        · obtain ⟨h6, h7⟩ := lim_nonneg h5
          exact ⟨i + 1, hlt, by omega, by omega, by rw [h7, ht]; omega, wrap_small (by omega) (by omega)⟩
      · rw [List.take_of_length_le hge] at hk ⊢
        exact (lim_of_nonneg (by omega)).symm.trans (by congr 1; omega))
    have h2 : SoundC Try.prog (K_szCase_ (n + 1)).1 (K_szCase_ (n + 1)).2 := sound_of hm ((((CtxOK.nil.and (K := K_szCaseS_ (n + 1)) h1).and k_szT).and k_szIntS).and k_szWhy) (fun _ => []) (by kernel_rfl) fun (x : CP × Int) hl => (by
      have hn : manyL x.1.2 < n + 1 := hl.2
      replace hl := hl.1
      rw [← vc_szCase_ (n + 1) x]
      obtain ⟨m, h3, h4⟩ : MlC (.mk x.1.1 x.1.2) ∧ Fu x.2 := hl
      obtain ⟨⟨⟨kind, n0, W, times, A, B⟩, ks⟩, k⟩ := x
      obtain ⟨q1, q2, q3, q4, m2⟩ := m.here
      have m3 : ∀ t ∈ ks, MlC t := fun t ht => m.kid ht
      dsimp only [Tree.val, Tree.kids] at *
      simp [-List.getD_eq_getElem?_getD, -List.mem_cons, -Bool.forall_bool, -Bool.exists_bool, and_assoc, peta, tl_inj, ex_1, ex_2, ex_3, ex_4, ex_5, ex_6, ex_7, ex_8, ex_9, ey_2, ey_3, ey_4, ey_5, ey_6, ey_7, ey_8, ey_9]
      simp only [sz1_lim]
      have e : k - (costTr costPC (.mk (kind, n0, W, times, A, B) ks) : Int) = k - costTr costPW (.mk W.1 W.2) - times.length - costT (.mk A.1 A.2) - costT (.mk B.1 B.2) - (ks.length + costTrs costPC ks) := by rw [costTr_eq]; simp only [Tree.val, Tree.kids, costPC]; omega
      rw [e]
      have neg : ∀ y : Int, y < 0 → k - costTr costPW (.mk W.1 W.2) - times.length - costT (.mk A.1 A.2) - costT (.mk B.1 B.2) - (ks.length + costTrs costPC ks) ≤ y → (-1 : Int) = lim (k - costTr costPW (.mk W.1 W.2) - times.length - costT (.mk A.1 A.2) - costT (.mk B.1 B.2) - (ks.length + costTrs costPC ks)) := fun y h h' => (lim_of_neg (by omega)).symm
      refine ⟨q1, h3, h4, fun h => neg _ (lim_neg h).1 (by omega), fun h => ?_⟩
      obtain ⟨p0, e0⟩ := lim_nonneg h
      rw [e0]
      refine ⟨q2, p0, by omega, fun h => neg _ (lim_neg h).1 (by omega), fun h => ?_⟩
      obtain ⟨p1, e1⟩ := lim_nonneg h
      rw [e1]
      refine ⟨q3, p1, by omega, fun h => neg _ (lim_neg h).1 (by omega), fun h => ?_⟩
      obtain ⟨p2, e2⟩ := lim_nonneg h
      rw [e2]
      refine ⟨q4, p2, by omega, fun h => neg _ (lim_neg h).1 (by omega), fun h => ?_⟩
      obtain ⟨p3, e3⟩ := lim_nonneg h
      rw [e3]
      exact ⟨m2, m3, p3, by omega, hn, fun h => (lim_neg h).2.symm, fun _ => rfl⟩)
    exact ⟨h1, h2⟩

theorem k_toCases (n : Nat) : SoundC Try.prog (K_toCaseS_ n).1 (K_toCaseS_ n).2 ∧ SoundC Try.prog (K_toCase_ n).1 (K_toCase_ n).2 := by
  induction n with
  | zero => exact ⟨sound_of hm CtxOK.nil (fun _ => []) (by kernel_rfl) fun x h => absurd h.2 (Nat.not_lt_zero _), sound_of hm CtxOK.nil (fun _ => []) (by kernel_rfl) fun x h => absurd h.2 (Nat.not_lt_zero _)⟩
  | succ n ih =>
    have h1 : SoundC Try.prog (K_toCaseS_ (n + 1)).1 (K_toCaseS_ (n + 1)).2 := sound_of hm (CtxOK.nil.and (K := K_toCase_ n) ih.2) (fun x => A_toCaseS x) (by kernel_rfl) fun (x : List Cse) hl => (by
      have hn : manyL x < n + 1 := hl.2
      replace hl := hl.1
      rw [← vc_toCaseS_ n x]
      have hl : SmTrs costPC x := hl
      simp [-List.getD_eq_getElem?_getD, -List.mem_cons, -Bool.forall_bool, -Bool.exists_bool, and_assoc, peta, tl_inj, ex_1, ex_2, ex_3, ex_4, ex_5, ex_6, ex_7, ex_8, ex_9, ey_2, ey_3, ey_4, ey_5, ey_6, ey_7, ey_8, ey_9]
      have hlen := hl.len
      refine ⟨by omega, by omega, ⟨0, by simp, List.replicate x.length dC, by simp, by simp, by simp, by simp, cases_make⟩, fun k b hk hb ht => ⟨fun hlt => ⟨hlt, hl.mem (getD_mem dC hlt), by have := many_kids (getD_mem dC hlt); omega, by omega, k + 1, hlt, b.set k (x.getD k dC), by simp [hb], copy_step dC hlt hb ht, by omega, by simp, wrap_small (by omega) (by omega), ?_⟩, fun hge => copy_end hge hb ht⟩⟩
      have := @cases_set b k (x.getD k dC).val (x.getD k dC).kids
      rw [Tree.eta] at this
      exact this)
    have h2 : SoundC Try.prog (K_toCase_ (n + 1)).1 (K_toCase_ (n + 1)).2 := sound_of hm ((((CtxOK.nil.and (K := K_toCaseS_ (n + 1)) h1).and k_toT).and k_toIntS).and k_toWhy) (fun _ => []) (by kernel_rfl) fun (x : CP) hl => (by
      have hn : manyL x.2 < n + 1 := hl.2
      replace hl := hl.1
      rw [← vc_toCase_ (n + 1) x]
      have hl : SmTr costPC (.mk x.1 x.2) := hl
      obtain ⟨⟨kind, n0, W, times, A, B⟩, ks⟩ := x
      have sk := hl.kids
      have sv := hl.here
      have sW : costTr costPW (.mk W.1 W.2) ≤ 1048576 := by simp only [costPC] at sv; omega
      have sN : times.length ≤ 1048576 := by simp only [costPC] at sv; omega
      have sA : costT (.mk A.1 A.2) ≤ 1048576 := by simp only [costPC] at sv; omega
      have sB : costT (.mk B.1 B.2) ≤ 1048576 := by simp only [costPC] at sv; omega
      dsimp only at *
      simp [-List.getD_eq_getElem?_getD, -List.mem_cons, -Bool.forall_bool, -Bool.exists_bool, and_assoc, peta, tl_inj, ex_1, ex_2, ex_3, ex_4, ex_5, ex_6, ex_7, ex_8, ex_9, ey_2, ey_3, ey_4, ey_5, ey_6, ey_7, ey_8, ey_9]
      exact ⟨sW, by omega, sA, sB, sk, hn⟩)
    exact ⟨h1, h2⟩

theorem k_eqCases (n : Nat) : SoundC Try.prog (K_eqCaseS_ n).1 (K_eqCaseS_ n).2 ∧ SoundC Try.prog (K_eqCase_ n).1 (K_eqCase_ n).2 := by
  induction n with
  | zero => exact ⟨sound_of hm CtxOK.nil (fun _ => []) (by kernel_rfl) fun x h => absurd h.2 (Nat.not_lt_zero _), sound_of hm CtxOK.nil (fun _ => []) (by kernel_rfl) fun x h => absurd h.2 (Nat.not_lt_zero _)⟩
  | succ n ih =>
    have h1 : SoundC Try.prog (K_eqCaseS_ (n + 1)).1 (K_eqCaseS_ (n + 1)).2 := sound_of hm (CtxOK.nil.and (K := K_eqCase_ n) ih.2) (fun x => A_eqCaseS x.1 x.2) (by kernel_rfl) fun (x : List Cse × List Cse) hl => (by
      have hn : manyL x.1 < n + 1 := hl.2
      replace hl := hl.1
      rw [← vc_eqCaseS_ n x]
      have hl : SmTrs costPC x.1 := hl
      obtain ⟨l, m⟩ := x
      dsimp only at *
      simp [-List.getD_eq_getElem?_getD, -List.mem_cons, -Bool.forall_bool, -Bool.exists_bool, and_assoc, peta, tl_inj, ex_1, ex_2, ex_3, ex_4, ex_5, ex_6, ex_7, ex_8, ex_9, ey_2, ey_3, ey_4, ey_5, ey_6, ey_7, ey_8, ey_9]
      have hlen := hl.len
      simp only [tpart]
      refine ⟨fun h e => h (by rw [e]), fun h => ⟨⟨0, by simp; omega⟩, fun k hk hlm he => ⟨fun hlt => ⟨hlt, by omega, hl.mem (getD_mem dC hlt), by have := many_kids (getD_mem dC hlt); omega, (eq_step dC hlt hlm he).1, fun h => ⟨k + 1, hlt, hlm, (eq_step dC hlt hlm he).2 h, by omega, wrap_small (by omega) (by omega)⟩⟩, fun hge => ?_⟩⟩⟩
      rw [drop_end (by omega), drop_end (l := m) (by omega)] at he
      exact he.2 rfl)
    have h2 : SoundC Try.prog (K_eqCase_ (n + 1)).1 (K_eqCase_ (n + 1)).2 := sound_of hm ((((CtxOK.nil.and (K := K_eqCaseS_ (n + 1)) h1).and k_eqT).and k_eqIntS).and k_eqWhy) (fun _ => []) (by kernel_rfl) fun (x : CP × CP) hl => (by
      have hn : manyL x.1.2 < n + 1 := hl.2
      replace hl := hl.1
      rw [← vc_eqCase_ (n + 1) x]
      have hl : SmTr costPC (.mk x.1.1 x.1.2) := hl
      obtain ⟨⟨⟨kind, n0, W, times, A, B⟩, ks⟩, ⟨kind', n0', W', times', A', B'⟩, ks'⟩ := x
      have sv := hl.here
      have sW : costTr costPW (.mk W.1 W.2) ≤ 1048576 := by simp only [costPC] at sv; omega
      have sN : times.length ≤ 1048576 := by simp only [costPC] at sv; omega
      have sA : costT (.mk A.1 A.2) ≤ 1048576 := by simp only [costPC] at sv; omega
      have sB : costT (.mk B.1 B.2) ≤ 1048576 := by simp only [costPC] at sv; omega

      dsimp only at *
      have sk := hl.kids
      have sv := hl.here

      simp [-List.getD_eq_getElem?_getD, -List.mem_cons, -Bool.forall_bool, -Bool.exists_bool, and_assoc, peta, tl_inj, ex_1, ex_2, ex_3, ex_4, ex_5, ex_6, ex_7, ex_8, ex_9, ey_2, ey_3, ey_4, ey_5, ey_6, ey_7, ey_8, ey_9]
      repeat' (first | apply And.intro | intro _)
      all_goals first | contradiction | assumption | omega | (simp_all; done))
    exact ⟨h1, h2⟩

theorem k_iCaseSames (n : Nat) : SoundC Try.prog (K_EqualCase_ n).1 (K_EqualCase_ n).2 ∧ SoundC Try.prog (K_iCaseSame_ n).1 (K_iCaseSame_ n).2 := by
  induction n with
  | zero => exact ⟨sound_of hm CtxOK.nil (fun _ => []) (by kernel_rfl) fun x h => absurd h.2 (Nat.not_lt_zero _), sound_of hm CtxOK.nil (fun _ => []) (by kernel_rfl) fun x h => absurd h.2 (Nat.not_lt_zero _)⟩
  | succ n ih =>
    have h1 : SoundC Try.prog (K_EqualCase_ (n + 1)).1 (K_EqualCase_ (n + 1)).2 := sound_of hm (CtxOK.nil.and (K := K_iCaseSame_ n) ih.2) (fun x => A_EqualCase x.1 x.2) (by kernel_rfl) fun (x : List Cse × List Cse) hl => (by
      have hn : manyL x.1 < n + 1 := hl.2
      replace hl := hl.1
      rw [← vc_EqualCase_ n x]
      have hl : SmTrs costPC x.1 := hl
      obtain ⟨l, m⟩ := x
      dsimp only at *
      simp [-List.getD_eq_getElem?_getD, -List.mem_cons, -Bool.forall_bool, -Bool.exists_bool, and_assoc, peta, tl_inj, ex_1, ex_2, ex_3, ex_4, ex_5, ex_6, ex_7, ex_8, ex_9, ey_2, ey_3, ey_4, ey_5, ey_6, ey_7, ey_8, ey_9]
      have hlen := hl.len
      simp only [tpart]
      refine ⟨fun h e => h (by rw [e]), fun h => ⟨⟨0, by simp; omega⟩, fun k hk hlm he => ⟨fun hlt => ⟨hlt, by omega, hl.mem (getD_mem dC hlt), by have := many_kids (getD_mem dC hlt); omega, (eq_step dC hlt hlm he).1, fun h => ⟨k + 1, hlt, hlm, (eq_step dC hlt hlm he).2 h, by omega, wrap_small (by omega) (by omega)⟩⟩, fun hge => ?_⟩⟩⟩
      rw [drop_end (by omega), drop_end (l := m) (by omega)] at he
      exact he.2 rfl)
    have h2 : SoundC Try.prog (K_iCaseSame_ (n + 1)).1 (K_iCaseSame_ (n + 1)).2 := sound_of hm ((((CtxOK.nil.and (K := K_EqualCase_ (n + 1)) h1).and k_iTermSame).and k_slEqual).and k_iWhySame) (fun _ => []) (by kernel_rfl) fun (x : CP × CP) hl => (by
      have hn : manyL x.1.2 < n + 1 := hl.2
      replace hl := hl.1
      rw [← vc_iCaseSame_ (n + 1) x]
      have hl : SmTr costPC (.mk x.1.1 x.1.2) := hl
      obtain ⟨⟨⟨kind, n0, W, times, A, B⟩, ks⟩, ⟨kind', n0', W', times', A', B'⟩, ks'⟩ := x
      have sv := hl.here
      have sW : costTr costPW (.mk W.1 W.2) ≤ 1048576 := by simp only [costPC] at sv; omega
      have sN : times.length ≤ 1048576 := by simp only [costPC] at sv; omega
      have sA : costT (.mk A.1 A.2) ≤ 1048576 := by simp only [costPC] at sv; omega
      have sB : costT (.mk B.1 B.2) ≤ 1048576 := by simp only [costPC] at sv; omega

      dsimp only at *
      have sk := hl.kids
      have sv := hl.here

      simp [-List.getD_eq_getElem?_getD, -List.mem_cons, -Bool.forall_bool, -Bool.exists_bool, and_assoc, peta, tl_inj, ex_1, ex_2, ex_3, ex_4, ex_5, ex_6, ex_7, ex_8, ex_9, ey_2, ey_3, ey_4, ey_5, ey_6, ey_7, ey_8, ey_9]
      repeat' (first | apply And.intro | intro _)
      all_goals first | contradiction | assumption | omega | (simp_all; done))
    exact ⟨h1, h2⟩

theorem k_sCaseSame_ (n : Nat) : SoundC Try.prog (K_sCaseSame_ n).1 (K_sCaseSame_ n).2 := by
  induction n with
  | zero => exact sound_of hm CtxOK.nil (fun _ => []) (by kernel_rfl) fun x h => absurd h.2 (Nat.not_lt_zero _)
  | succ n ih => exact sound_of hm ((((CtxOK.nil.and (K := K_sCaseSame_ n) ih).and k_sTermSame).and k_l5Ints).and k_sWhySame) (fun x => A_sCaseSame x.1 x.2) (by kernel_rfl) fun x hl => (by
      have hn : manyL x.1.2 < n + 1 := hl.2
      replace hl := hl.1
      rw [← vc_sCaseSame_ n x]
      have hl : SmTr costPC (.mk x.1.1 x.1.2) := hl
      obtain ⟨⟨⟨kind, n0, W, times, A, B⟩, ks⟩, ⟨kind', n0', W', times', A', B'⟩, ks'⟩ := x
      have sv := hl.here
      have sW : costTr costPW (.mk W.1 W.2) ≤ 1048576 := by simp only [costPC] at sv; omega
      have sN : times.length ≤ 1048576 := by simp only [costPC] at sv; omega
      have sA : costT (.mk A.1 A.2) ≤ 1048576 := by simp only [costPC] at sv; omega
      have sB : costT (.mk B.1 B.2) ≤ 1048576 := by simp only [costPC] at sv; omega

      dsimp only at *
      have sk := hl.kids
      have sv := hl.here
      simp [-List.getD_eq_getElem?_getD, -List.mem_cons, -Bool.forall_bool, -Bool.exists_bool, and_assoc, peta, tl_inj, ex_1, ex_2, ex_3, ex_4, ex_5, ex_6, ex_7, ex_8, ex_9, ey_2, ey_3, ey_4, ey_5, ey_6, ey_7, ey_8, ey_9]
      have hlen := sk.len
      refine ⟨(by intros; contradiction), fun e0 => ⟨(by intros; contradiction), fun e1 => ⟨sW, (by intros; contradiction), fun e2 => ⟨(by omega), (by intros; contradiction), fun e3 => ⟨sA, (by intros; contradiction), fun e4 => ⟨sB, (by intros; contradiction), fun e5 => ⟨(by intro h; intros; intro hk; exact h (by rw [hk])), fun el => ⟨⟨0, by simp, by omega, (by assumption), (by assumption), (by assumption), (by assumption), (by assumption), (by assumption), by simp, rfl⟩, fun k hk hlm a0 a1 a2 a3 a4 a5 he => ⟨fun hlt => ⟨hlt, by omega, sk.mem (getD_mem dC hlt), by have := many_kids (getD_mem dC hlt); omega, fun h _ _ _ _ _ _ => (eq_step dC hlt hlm he).1 (tpart.1 h), fun v1 v2 => ⟨k + 1, hlt, hlm, a0, a1, a2, a3, a4, a5, (eq_step dC hlt hlm he).2 (Tree.ext v1 v2), by omega, wrap_small (by omega) (by omega)⟩⟩, fun hge => ⟨a0, a1, a2, a3, a4, a5, ?_⟩⟩⟩⟩⟩⟩⟩⟩⟩⟩
      rw [drop_end (by omega), drop_end (l := ks') (by omega)] at he
      exact he.2 rfl)

theorem k_szCase : SoundC Try.prog K_szCase.1 K_szCase.2 := SoundC.fam (fun x => manyL x.1.2) fun n => (k_szCases n).2
theorem k_szCaseS : SoundC Try.prog K_szCaseS.1 K_szCaseS.2 := SoundC.fam (fun x => manyL x.1) fun n => (k_szCases n).1
theorem k_toCase : SoundC Try.prog K_toCase.1 K_toCase.2 := SoundC.famI (fun x => manyL x.2) fun n => (k_toCases n).2
theorem k_toCaseS : SoundC Try.prog K_toCaseS.1 K_toCaseS.2 := SoundC.famI (fun x => manyL x) fun n => (k_toCases n).1
theorem k_eqCase : SoundC Try.prog K_eqCase.1 K_eqCase.2 := SoundC.fam (fun x => manyL x.1.2) fun n => (k_eqCases n).2
theorem k_eqCaseS : SoundC Try.prog K_eqCaseS.1 K_eqCaseS.2 := SoundC.fam (fun x => manyL x.1) fun n => (k_eqCases n).1
theorem k_iCaseSame : SoundC Try.prog K_iCaseSame.1 K_iCaseSame.2 := SoundC.fam (fun x => manyL x.1.2) fun n => (k_iCaseSames n).2
theorem k_EqualCase : SoundC Try.prog K_EqualCase.1 K_EqualCase.2 := SoundC.fam (fun x => manyL x.1) fun n => (k_iCaseSames n).1
theorem k_sCaseSame : SoundC Try.prog K_sCaseSame.1 K_sCaseSame.2 := SoundC.fam (fun x => manyL x.1.2) fun n => k_sCaseSame_ n
theorem k_xFormSame : SoundC Try.prog K_xFormSame.1 K_xFormSame.2 := sound_of hm (((((CtxOK.nil.and k_eqForm).and k_iFormSame).and k_sFormSame).and k_toForm).and k_szForm) (fun _ => []) (by kernel_rfl) fun x hl => (by
  rw [← vc_xFormSame x]
  obtain ⟨m1, m2⟩ : MlF (.mk x.1.1 x.1.2) ∧ MlF (.mk x.2.1 x.2.2) := hl
  obtain ⟨⟨⟨kind, a, no⟩, ks⟩, ⟨kind', a', no'⟩, ks'⟩ := x
  dsimp only at *
  simp [-List.getD_eq_getElem?_getD, -List.mem_cons, -Bool.forall_bool, -Bool.exists_bool, and_assoc, peta, tl_inj, ex_1, ex_2, ex_3, ex_4, ex_5, ex_6, ex_7, ex_8, ex_9, ey_2, ey_3, ey_4, ey_5, ey_6, ey_7, ey_8, ey_9]
  refine ⟨m1, fun h => ?_⟩
  obtain ⟨p1, p2⟩ := lim_nonneg h
  refine ⟨m2, h, by omega, fun h2 => ?_⟩
  have p3 := (lim_nonneg h2).1
  and_intros <;> omega)

theorem k_xCaseSame : SoundC Try.prog K_xCaseSame.1 K_xCaseSame.2 := sound_of hm (((((CtxOK.nil.and k_eqCase).and k_iCaseSame).and k_sCaseSame).and k_toCase).and k_szCase) (fun _ => []) (by kernel_rfl) fun x hl => (by
  rw [← vc_xCaseSame x]
  obtain ⟨m1, m2⟩ : MlC (.mk x.1.1 x.1.2) ∧ MlC (.mk x.2.1 x.2.2) := hl
  obtain ⟨⟨⟨kind, n0, W, times, A, B⟩, ks⟩, ⟨kind', n0', W', times', A', B'⟩, ks'⟩ := x
  dsimp only at *
  simp [-List.getD_eq_getElem?_getD, -List.mem_cons, -Bool.forall_bool, -Bool.exists_bool, and_assoc, peta, tl_inj, ex_1, ex_2, ex_3, ex_4, ex_5, ex_6, ex_7, ex_8, ex_9, ey_2, ey_3, ey_4, ey_5, ey_6, ey_7, ey_8, ey_9]
  refine ⟨m1, fun h => ?_⟩
  obtain ⟨p1, p2⟩ := lim_nonneg h
  refine ⟨m2, h, by omega, fun h2 => ?_⟩
  have p3 := (lim_nonneg h2).1
  and_intros <;> omega)

end Cg
