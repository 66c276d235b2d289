/-
  The codes' contracts: atoms, formulas, explanations, cases: sizes, copies, equality. No condition.
-/
import Derived.Test.YtjhiaobcbbnhnaaGreatSameVc
import Derived.Test.YtjhiaobcbbnhnaaGreatTsortOk
import Derived.Test.YtjhiaobcbbnhnaaGreatCnfOk
set_option linter.unusedVariables false
set_option linter.unusedSimpArgs false
set_option maxRecDepth 100000
set_option maxHeartbeats 1000000
namespace Cg
open Go Go.Proofs Pl
section
variable {α : Type} {f : α → Nat}
theorem SmTrs.mem {l : List (Tree α)} (h : SmTrs f l) {t : Tree α} (ht : t ∈ l) : SmTr f t := by
  have := costTr_mem (f := f) ht
  have h1 : l.length + costTrs f l ≤ 1048576 := h
  show costTr f t ≤ 1048576
  omega
theorem SmTrs.len {l : List (Tree α)} (h : SmTrs f l) : l.length ≤ 1048576 := by
  have h1 : l.length + costTrs f l ≤ 1048576 := h
  omega
theorem SmTr.kids {v : α} {ks : List (Tree α)} (h : SmTr f (.mk v ks)) : SmTrs f ks := by
  have h1 : costTr f (.mk v ks) ≤ 1048576 := h
  rw [costTr_eq] at h1
  simp only [Tree.val, Tree.kids] at h1
  show ks.length + costTrs f ks ≤ 1048576
  omega
theorem SmTr.here {v : α} {ks : List (Tree α)} (h : SmTr f (.mk v ks)) : f v ≤ 1048576 := by
  have h1 : costTr f (.mk v ks) ≤ 1048576 := h
  rw [costTr_eq] at h1
  simp only [Tree.val, Tree.kids] at h1
  omega
end
theorem SmA.parts {x : Atm} (h : SmA x) : SmT (.mk x.2.1.1 x.2.1.2) ∧ SmT (.mk x.2.2.1.1 x.2.2.1.2) ∧ SmTs x.2.2.2.1 ∧ x.2.2.2.2.1.length ≤ 1048576 := by
  have h1 : costA x ≤ 1048576 := h
  unfold costA at h1
  refine ⟨?_, ?_, ?_, by omega⟩
  · show costT _ ≤ _; omega
  · show costT _ ≤ _; omega
  · show _ + _ ≤ _; omega

theorem k_szAtom : SoundC Tryz.prog K_szAtom.1 K_szAtom.2 := sound_of hm (((CtxOK.nil.and k_szIntS).and k_szTs).and k_szT) (fun _ => []) (by kernel_rfl) fun x hl => (by
  rw [← vc_szAtom x]
  obtain ⟨⟨m1, m2, ⟨m3, m4⟩, m5⟩, h3, h4⟩ : MlA x.1 ∧ Fu x.2 := hl
  obtain ⟨⟨kind, A, B, nums, times, bound, strict⟩, k⟩ := x
  dsimp only at *
  simp [-List.getD_eq_getElem?_getD, -List.mem_cons, -Bool.forall_bool, -Bool.exists_bool, and_assoc, peta, tl_inj, ex_1, ex_2, ex_3, ex_4, ex_5, ex_6, ex_7, ex_8, ex_9, ey_2, ey_3, ey_4, ey_5, ey_6, ey_7, ey_8, ey_9]
  have e : k - (costA (kind, A, B, nums, times, bound, strict) : Int) = k - costT (.mk A.1 A.2) - costT (.mk B.1 B.2) - (nums.length + costTs nums) - times.length := by simp only [costA]; omega
  rw [e]
  have neg : ∀ y : Int, y < 0 → k - costT (.mk A.1 A.2) - costT (.mk B.1 B.2) - (nums.length + costTs nums) - times.length ≤ y → (-1 : Int) = lim (k - costT (.mk A.1 A.2) - costT (.mk B.1 B.2) - (nums.length + costTs nums) - times.length) := fun y h h' => (lim_of_neg (by omega)).symm
  refine ⟨m1, h3, h4, fun h => neg _ (lim_neg h).1 (by omega), fun h => ?_⟩
  obtain ⟨p1, e1⟩ := lim_nonneg h
  rw [e1]
  refine ⟨m2, p1, by omega, fun h => neg _ (lim_neg h).1 (by omega), fun h => ?_⟩
  obtain ⟨p2, e2⟩ := lim_nonneg h
  rw [e2]
  refine ⟨m3, m4, p2, by omega, fun h => neg _ (lim_neg h).1 (by omega), fun h => ?_⟩
  obtain ⟨p3, e3⟩ := lim_nonneg h
  rw [e3]
  exact ⟨m5, p3, by omega, fun h => (lim_neg h).2.symm, fun _ => rfl⟩)

theorem k_szLit : SoundC Tryz.prog K_szLit.1 K_szLit.2 := sound_of hm (CtxOK.nil.and k_szAtom) (fun _ => []) (by kernel_rfl) fun x hl => (by
  rw [← vc_szLit x]
  obtain ⟨⟨m1, m2, ⟨m3, m4⟩, m5⟩, h3, h4⟩ : MlA x.1.1 ∧ Fu x.2 := hl
  obtain ⟨⟨⟨kind, A, B, nums, times, bound, strict⟩, no⟩, k⟩ := x
  dsimp only at *
  simp [-List.getD_eq_getElem?_getD, -List.mem_cons, -Bool.forall_bool, -Bool.exists_bool, and_assoc, peta, tl_inj, ex_1, ex_2, ex_3, ex_4, ex_5, ex_6, ex_7, ex_8, ex_9, ey_2, ey_3, ey_4, ey_5, ey_6, ey_7, ey_8, ey_9]
  exact ⟨m1, m2, m3, m4, m5, h3, h4, fun h => (lim_neg h).2.symm, fun _ => rfl⟩)

theorem k_toAtom : SoundC Tryz.prog K_toAtom.1 K_toAtom.2 := sound_of hm (((CtxOK.nil.and k_toIntS).and k_toTs).and k_toT) (fun _ => []) (by kernel_rfl) fun x hl => (by
  rw [← vc_toAtom x]
  obtain ⟨s1, s2, s3, s4⟩ := SmA.parts (x := x) hl
  obtain ⟨kind, A, B, nums, times, bound, strict⟩ := x
  dsimp only at *
  simp [-List.getD_eq_getElem?_getD, -List.mem_cons, -Bool.forall_bool, -Bool.exists_bool, and_assoc, peta, tl_inj, ex_1, ex_2, ex_3, ex_4, ex_5, ex_6, ex_7, ex_8, ex_9, ey_2, ey_3, ey_4, ey_5, ey_6, ey_7, ey_8, ey_9]
  exact ⟨s1, s2, s3, by omega⟩)

theorem k_toLit : SoundC Tryz.prog K_toLit.1 K_toLit.2 := sound_of hm (CtxOK.nil.and k_toAtom) (fun _ => []) (by kernel_rfl) fun x hl => (by
  rw [← vc_toLit x]
  have h1 : SmA x.1 := hl
  obtain ⟨⟨kind, A, B, nums, times, bound, strict⟩, no⟩ := x
  dsimp only at *
  simp [-List.getD_eq_getElem?_getD, -List.mem_cons, -Bool.forall_bool, -Bool.exists_bool, and_assoc, peta, tl_inj, ex_1, ex_2, ex_3, ex_4, ex_5, ex_6, ex_7, ex_8, ex_9, ey_2, ey_3, ey_4, ey_5, ey_6, ey_7, ey_8, ey_9]
  exact h1)

theorem k_eqAtom : SoundC Tryz.prog K_eqAtom.1 K_eqAtom.2 := sound_of hm (((CtxOK.nil.and k_eqIntS).and k_eqTs).and k_eqT) (fun _ => []) (by kernel_rfl) fun x hl => (by
  rw [← vc_eqAtom x]
  obtain ⟨s1, s2, s3, s4⟩ := SmA.parts (x := x.1) hl
  obtain ⟨⟨kind, A, B, nums, times, bound, strict⟩, kind', A', B', nums', times', bound', strict'⟩ := x
  dsimp only at *
  simp [-List.getD_eq_getElem?_getD, -List.mem_cons, -Bool.forall_bool, -Bool.exists_bool, and_assoc, peta, tl_inj, ex_1, ex_2, ex_3, ex_4, ex_5, ex_6, ex_7, ex_8, ex_9, ey_2, ey_3, ey_4, ey_5, ey_6, ey_7, ey_8, ey_9]
  repeat' (first | apply And.intro | intro _)
  all_goals first | contradiction | assumption | omega | grind)

theorem k_eqLit : SoundC Tryz.prog K_eqLit.1 K_eqLit.2 := sound_of hm (CtxOK.nil.and k_eqAtom) (fun _ => []) (by kernel_rfl) fun x hl => (by
  rw [← vc_eqLit x]
  have h1 : SmA x.1.1 := hl
  obtain ⟨⟨⟨kind, A, B, nums, times, bound, strict⟩, no⟩, ⟨kind', A', B', nums', times', bound', strict'⟩, no'⟩ := x
  dsimp only at *
  simp [-List.getD_eq_getElem?_getD, -List.mem_cons, -Bool.forall_bool, -Bool.exists_bool, and_assoc, peta, tl_inj, ex_1, ex_2, ex_3, ex_4, ex_5, ex_6, ex_7, ex_8, ex_9, ey_2, ey_3, ey_4, ey_5, ey_6, ey_7, ey_8, ey_9]
  repeat' (first | apply And.intro | intro _)
  all_goals first | contradiction | assumption | omega | grind)

theorem sz1_lim (n : Nat) (k : Int) : sz1 n k = lim (k - n) := rfl
end Cg
