/-
  What the law leans on, part 3. No condition.
-/
import Derived.Test.YtkajadgfafpncaaDoorProg
import Derived.Shelf.Strconv.Itoa3
import Derived.Shelf.Strings.OnBuilder
import Derived.Lib.LaidTab
import Derived.LaidSub
import Derived.LaidMore
import Derived.MakeChecks
import Derived.Test.YtkajadgfafpncaaDoorRows
import Derived.Test.YtkajadgfafpncaaDoorFnAtomSameB1
import Derived.Test.YtkajadgfafpncaaDoorFnAtomSameB2
/-
  The codes' contracts: atoms, formulas, explanations, cases: sizes, copies, equality. No condition.
-/
set_option linter.unusedVariables false
set_option linter.unusedSimpArgs false
set_option maxRecDepth 100000
set_option maxHeartbeats 1000000
namespace Cg
open Go Go.Proofs Pl
section
variable {α : Type} {f : α → Nat}
theorem SmTrs.mem {l : List (Tree α)} (h : SmTrs f l) {t : Tree α} (ht : t ∈ l) : SmTr f t := by
  have := costTr_mem (f := f) ht
  have h1 : l.length + costTrs f l ≤ 1048576 := h
  show costTr f t ≤ 1048576
  omega
theorem SmTrs.len {l : List (Tree α)} (h : SmTrs f l) : l.length ≤ 1048576 := by
  have h1 : l.length + costTrs f l ≤ 1048576 := h
  omega
theorem SmTr.kids {v : α} {ks : List (Tree α)} (h : SmTr f (.mk v ks)) : SmTrs f ks := by
  have h1 : costTr f (.mk v ks) ≤ 1048576 := h
  rw [costTr_eq] at h1
  simp only [Tree.val, Tree.kids] at h1
  show ks.length + costTrs f ks ≤ 1048576
  omega
theorem SmTr.here {v : α} {ks : List (Tree α)} (h : SmTr f (.mk v ks)) : f v ≤ 1048576 := by
  have h1 : costTr f (.mk v ks) ≤ 1048576 := h
  rw [costTr_eq] at h1
  simp only [Tree.val, Tree.kids] at h1
  omega
end
theorem SmA.parts {x : Atm} (h : SmA x) : SmT (.mk x.2.1.1 x.2.1.2) ∧ SmT (.mk x.2.2.1.1 x.2.2.1.2) ∧ SmTs x.2.2.2.1 ∧ x.2.2.2.2.1.length ≤ 1048576 := by
  have h1 : costA x ≤ 1048576 := h
  unfold costA at h1
  refine ⟨?_, ?_, ?_, by omega⟩
  · show costT _ ≤ _; omega
  · show costT _ ≤ _; omega
  · show _ + _ ≤ _; omega

theorem k_iTSames (n : Nat) : SoundC Tryd.prog (K_EqualT n).1 (K_EqualT n).2 ∧ SoundC Tryd.prog (K_iTSame n).1 (K_iTSame n).2 := by
  induction n with
  | zero => exact ⟨sound_of hm CtxOK.nil (fun _ => []) (by kernel_rfl) fun x h => absurd h.2 (Nat.not_lt_zero _), sound_of hm CtxOK.nil (fun _ => []) (by kernel_rfl) fun x h => absurd h.2 (Nat.not_lt_zero _)⟩
  | succ n ih =>
    have h1 : SoundC Tryd.prog (K_EqualT (n + 1)).1 (K_EqualT (n + 1)).2 := sound_of hm (CtxOK.nil.and (K := K_iTSame n) ih.2) (fun x => A_EqualT x.1 x.2) (by kernel_rfl) fun (x : _) hl => (by
      have hn : manyL x.1 < n + 1 := hl.2
      replace hl := hl.1
      rw [← vc_EqualT n x]
      have hl : SmTs x.1 := hl
      obtain ⟨l, m⟩ := x
      dsimp only at *
      simp [-List.getD_eq_getElem?_getD, -List.mem_cons, -Bool.forall_bool, -Bool.exists_bool, and_assoc, peta, tl_inj, ex_1, ex_2, ex_3, ex_4, ex_5, ex_6, ex_7, ex_8, ex_9, ey_2, ey_3, ey_4, ey_5, ey_6, ey_7, ey_8, ey_9]
      have hlen := hl.len
      simp only [tparts']
      refine ⟨fun h e => h (by rw [e]), fun h => ⟨⟨0, by simp; omega⟩, fun k hk hlm he => ⟨fun hlt => ⟨hlt, by omega, hl.mem (getD_mem dT hlt), by have := manyL_kids (getD_mem dT hlt); omega, (eq_step dT hlt hlm he).1, fun h => ⟨k + 1, hlt, hlm, (eq_step dT hlt hlm he).2 h, by omega, wrap_small (by omega) (by omega)⟩⟩, fun hge => ?_⟩⟩⟩
      rw [drop_end (by omega), drop_end (l := m) (by omega)] at he
      exact he.2 rfl)
    have h2 : SoundC Tryd.prog (K_iTSame (n + 1)).1 (K_iTSame (n + 1)).2 := sound_of hm (CtxOK.nil.and (K := K_EqualT (n + 1)) h1) (fun _ => []) (by kernel_rfl) fun (x : _) hl => (by
      have hn : manyL x.1.2 < n + 1 := hl.2
      replace hl := hl.1
      rw [← vc_iTSame (n + 1) x]
      have hl : SmT (.mk x.1.1 x.1.2) := hl
      obtain ⟨⟨a, b⟩, c, d⟩ := x
      dsimp only at *
      simp [-List.getD_eq_getElem?_getD, -List.mem_cons, -Bool.forall_bool, -Bool.exists_bool, and_assoc, peta, tl_inj, ex_1, ex_2, ex_3, ex_4, ex_5, ex_6, ex_7, ex_8, ex_9, ey_2, ey_3, ey_4, ey_5, ey_6, ey_7, ey_8, ey_9]
      exact ⟨fun e => ⟨hl.kids, hn, fun _ => e⟩, fun h e => absurd e h⟩)
    exact ⟨h1, h2⟩

theorem k_sTSame (n : Nat) : SoundC Tryd.prog (K_sTSame n).1 (K_sTSame n).2 := by
  induction n with
  | zero => exact sound_of hm CtxOK.nil (fun _ => []) (by kernel_rfl) fun x h => absurd h.2 (Nat.not_lt_zero _)
  | succ n ih => exact sound_of hm (CtxOK.nil.and (K := K_sTSame n) ih) (fun x => A_sTSame x.1 x.2) (by kernel_rfl) fun x hl => (by
      have hn : manyL x.1.2 < n + 1 := hl.2
      replace hl := hl.1
      rw [← vc_sTSame n x]
      have hl : SmT (.mk x.1.1 x.1.2) := hl
      obtain ⟨⟨a, b⟩, c, d⟩ := x
      dsimp only at *
      simp [-List.getD_eq_getElem?_getD, -List.mem_cons, -Bool.forall_bool, -Bool.exists_bool, and_assoc, peta, tl_inj, ex_1, ex_2, ex_3, ex_4, ex_5, ex_6, ex_7, ex_8, ex_9, ey_2, ey_3, ey_4, ey_5, ey_6, ey_7, ey_8, ey_9]
      have hlen := hl.kids.len
      refine ⟨fun h e => absurd e h, fun e1 => ⟨fun h _ e => h (by rw [e]), fun e2 => ⟨⟨0, by simp, by omega, e1, by simp, rfl⟩, fun k hk hlm ha he => ⟨fun hlt => ⟨hlt, by omega, hl.kids.mem (getD_mem dT hlt), by have := manyL_kids (getD_mem dT hlt); omega, fun h _ => (eq_step dT hlt hlm he).1 (tpart.1 h), fun v1 v2 => ⟨k + 1, hlt, hlm, ha, (eq_step dT hlt hlm he).2 (Tree.ext v1 v2), by omega, wrap_small (by omega) (by omega)⟩⟩, fun hge => ⟨ha, ?_⟩⟩⟩⟩⟩
      rw [drop_end (by omega), drop_end (l := d) (by omega)] at he
      exact he.2 rfl)

theorem k_sTermSame : SoundC Tryd.prog K_sTermSame.1 K_sTermSame.2 := SoundC.fam (fun x => manyL x.1.2) fun n => k_sTSame n
theorem k_iTermSame : SoundC Tryd.prog K_iTermSame.1 K_iTermSame.2 := SoundC.fam (fun x => manyL x.1.2) fun n => (k_iTSames n).2
theorem k_EqualTerms : SoundC Tryd.prog K_EqualTerms.1 K_EqualTerms.2 := SoundC.fam (fun x => manyL x.1) fun n => (k_iTSames n).1

theorem k_sAtomSame : SoundC Tryd.prog K_sAtomSame.1 K_sAtomSame.2 := sound_of hm (CtxOK.nil.and k_sTermSame) (fun x => A_sAtomSame x.1 x.2) (by kernel_rfl) fun x hl => (by
  rw [← vc_sAtomSame x]
  obtain ⟨s1, s2, s3, s4⟩ := SmA.parts (x := x.1) hl
  obtain ⟨⟨kind, A, B, nums, times, bound, strict⟩, kind', A', B', nums', times', bound', strict'⟩ := x
  dsimp only at *
  simp [-List.getD_eq_getElem?_getD, -List.mem_cons, -Bool.forall_bool, -Bool.exists_bool, and_assoc, peta, tl_inj, ex_1, ex_2, ex_3, ex_4, ex_5, ex_6, ex_7, ex_8, ex_9, ey_2, ey_3, ey_4, ey_5, ey_6, ey_7, ey_8, ey_9]
  have hlen := s3.len
  refine ⟨fun h e => absurd e h, fun e1 => ⟨s1, fun h _ e => absurd e h, fun e2 => ⟨s2, fun h _ _ e => absurd e h, fun e3 => ⟨fun h _ _ _ e => absurd (by rw [e]) h, fun e4 => ⟨fun h _ _ _ _ e => absurd (by rw [e]) h, fun e5 => ⟨fun h _ _ _ _ _ e => absurd e h, fun e6 => ⟨fun h _ _ _ _ _ _ e => absurd e h, fun e7 => ⟨⟨0, by simp, by omega, ?_, by omega, rfl⟩, fun k hk hlm he htl => ⟨fun hlt => ?_, fun hge => ?_⟩⟩⟩⟩⟩⟩⟩⟩⟩
  · rw [List.drop_zero, List.drop_zero]
    exact ⟨fun h => ⟨h.2.2.2.2.1, h.2.2.2.1⟩, fun h => ⟨e1, e2, e3, h.2, h.1, e6, e7⟩⟩
  · have k1 := drop_get dT hlt
    have k2 := drop_get (l := nums') dT (by omega : k < nums'.length)
    rw [k1, k2] at he
    refine ⟨hlt, by omega, s3.mem (getD_mem dT hlt), fun h c1 c2 c3 c4 c5 c6 c7 => ?_, fun v1 v2 => ⟨k + 1, hlt, hlm, ?_, htl, by omega, wrap_small (by omega) (by omega)⟩⟩
    · have := (List.cons.inj (he.1 ⟨c1, c2, c3, c4, c5, c6, c7⟩).2).1
      exact h (by rw [this]) (by rw [this])
    · rw [Tree.ext v1 v2] at he
      refine he.trans ⟨fun h => ⟨h.1, (List.cons.inj h.2).2⟩, fun h => ⟨h.1, by rw [h.2]⟩⟩
  · rw [drop_end (by omega), drop_end (l := nums') (by omega)] at he
    refine ⟨⟨0, by simp, htl, ?_, rfl⟩, fun j hj _ he2 => ⟨fun hlt => ?_, fun hge2 => he2.2 (by rw [drop_end (by omega), drop_end (by omega)])⟩⟩
    · rw [List.drop_zero, List.drop_zero]
      exact he.trans ⟨fun h => h.1, fun h => ⟨h, rfl⟩⟩
    · have k1 := drop_get 0 hlt
      have k2 := drop_get (l := times') 0 (by omega : j < times'.length)
      rw [k1, k2] at he2
      refine ⟨hlt, by omega, fun h c1 c2 c3 c4 c5 c6 c7 => h (List.cons.inj (he2.1 ⟨c1, c2, c3, c4, c5, c6, c7⟩)).1, fun v => ⟨j + 1, hlt, htl, ?_, by omega, wrap_small (by omega) (by omega)⟩⟩
      rw [v] at he2
      exact he2.trans ⟨fun h => (List.cons.inj h).2, fun h => by rw [h]⟩)

theorem k_iAtomSame : SoundC Tryd.prog K_iAtomSame.1 K_iAtomSame.2 := sound_of hm (((CtxOK.nil.and k_slEqual).and k_EqualTerms).and k_iTermSame) (fun _ => []) (by kernel_rfl) fun x hl => (by
  rw [← vc_iAtomSame x]
  obtain ⟨s1, s2, s3, s4⟩ := SmA.parts (x := x.1) hl
  obtain ⟨⟨kind, A, B, nums, times, bound, strict⟩, kind', A', B', nums', times', bound', strict'⟩ := x
  dsimp only at *
  simp [-List.getD_eq_getElem?_getD, -List.mem_cons, -Bool.forall_bool, -Bool.exists_bool, and_assoc, peta, tl_inj, ex_1, ex_2, ex_3, ex_4, ex_5, ex_6, ex_7, ex_8, ex_9, ey_2, ey_3, ey_4, ey_5, ey_6, ey_7, ey_8, ey_9]
  repeat' (first | apply And.intro | intro _)
  all_goals first | contradiction | assumption | omega | (simp_all; done) | (cases strict <;> cases strict' <;> simp_all))

end Cg

/-
  The codes' contracts: lists of literals: sizes, copies, equality. No condition.
-/
set_option linter.unusedVariables false
set_option linter.unusedSimpArgs false
set_option maxRecDepth 100000
set_option maxHeartbeats 1000000
namespace Cg
open Go Go.Proofs Pl
theorem SmLs.mem {l : List Ltr} (h : SmLs l) {x : Ltr} (hx : x ∈ l) : SmA x.1 := by
  have h1 : l.length + sumN costL l ≤ 1048576 := h
  have h2 := sumN_mem costL hx
  have h3 : costL x = costA x.1 := rfl
  show costA x.1 ≤ 1048576
  omega
theorem SmLs.len {l : List Ltr} (h : SmLs l) : l.length ≤ 1048576 := by
  have h1 : l.length + sumN costL l ≤ 1048576 := h
  omega
end Cg

/-
  What is left to show of each function's code, printed by a program: Atm. No condition.
-/
set_option maxRecDepth 100000
set_option linter.unusedVariables false
namespace Cg
open Go Go.Proofs
theorem vc_l4Text (n : Nat) (x : Pl.TP) : ((∃ x_1 : Nat,
 x_1 ≤ x.2.length ∧ ((0 : Nat) = (0 : Nat) ∧ x.1 = Pl.spell x.1 (List.take x_1 x.2) ∧ (0 : Int) = (↑x_1 : Int) ∧ True) ∧ (x.1 = x.1 ∧ Is (terms x.2) (terms x.2) ∧ True) ∧ True) ∧ ∀ (x_1 : Nat),
 x_1 ≤ x.2.length →
 condP (decide ((↑x_1 : Int) < (↑x.2.length : Int)))
 (condP ((↑x_1 : Int) == (0 : Int))
 ((↑((Pl.spell x.1 (List.take x_1 x.2)).size + (1 : Nat)) : Int) ≤ (9223372036854775807 : Int) ∧ ((0 : Int) ≤ (↑x_1 : Int) ∧ (↑x_1 : Int) < (↑x.2.length : Int)) ∧ x_1 < x.2.length ∧ ∃ x_2 : Pl.TP,
 ((Pl.Tree.val (x.2.getD x_1 Pl.dT) = x_2.1 ∧ Is (kidsT (x.2.getD x_1 Pl.dT)) (terms x_2.2) ∧ True) ∧ True) ∧ (SmT (Pl.Tree.mk x_2.1 x_2.2) ∧ Pl.manyL x_2.2 < n) ∧ (↑((ByteArray.mk (Array.mk ((Pl.spell x.1 (List.take x_1 x.2)).data.toList ++ [(40 : UInt8)]))).size + (Pl.textT (Pl.Tree.mk x_2.1 x_2.2)).size) : Int) ≤
 (9223372036854775807 : Int) ∧ Exists fun (x' : Nat) =>
 x' ≤ x.2.length ∧ x.2.length - x' < x.2.length - x_1 ∧ ((0 : Nat) = (0 : Nat) ∧ ByteArray.mk
 (Array.mk
 ((ByteArray.mk (Array.mk ((Pl.spell x.1 (List.take x_1 x.2)).data.toList ++ [(40 : UInt8)]))).data.toList ++
 (Pl.textT (Pl.Tree.mk x_2.1 x_2.2)).data.toList)) =
 Pl.spell x.1 (List.take x' x.2) ∧ IntKind.i64.wrap ((↑x_1 : Int) + (1 : Int)) = (↑x' : Int) ∧ True) ∧ (x.1 = x.1 ∧ Is (terms x.2) (terms x.2) ∧ True) ∧ True)
 ((↑((Pl.spell x.1 (List.take x_1 x.2)).size + (1 : Nat)) : Int) ≤ (9223372036854775807 : Int) ∧ ((0 : Int) ≤ (↑x_1 : Int) ∧ (↑x_1 : Int) < (↑x.2.length : Int)) ∧ x_1 < x.2.length ∧ ∃ x_2 : Pl.TP,
 ((Pl.Tree.val (x.2.getD x_1 Pl.dT) = x_2.1 ∧ Is (kidsT (x.2.getD x_1 Pl.dT)) (terms x_2.2) ∧ True) ∧ True) ∧ (SmT (Pl.Tree.mk x_2.1 x_2.2) ∧ Pl.manyL x_2.2 < n) ∧ (↑((ByteArray.mk (Array.mk ((Pl.spell x.1 (List.take x_1 x.2)).data.toList ++ [(44 : UInt8)]))).size + (Pl.textT (Pl.Tree.mk x_2.1 x_2.2)).size) : Int) ≤
 (9223372036854775807 : Int) ∧ Exists fun (x' : Nat) =>
 x' ≤ x.2.length ∧ x.2.length - x' < x.2.length - x_1 ∧ ((0 : Nat) = (0 : Nat) ∧ ByteArray.mk
 (Array.mk
 ((ByteArray.mk (Array.mk ((Pl.spell x.1 (List.take x_1 x.2)).data.toList ++ [(44 : UInt8)]))).data.toList ++
 (Pl.textT (Pl.Tree.mk x_2.1 x_2.2)).data.toList)) =
 Pl.spell x.1 (List.take x' x.2) ∧ IntKind.i64.wrap ((↑x_1 : Int) + (1 : Int)) = (↑x' : Int) ∧ True) ∧ (x.1 = x.1 ∧ Is (terms x.2) (terms x.2) ∧ True) ∧ True))
 (condP (decide ((↑x.2.length : Int) > (0 : Int)))
 ((↑((Pl.spell x.1 (List.take x_1 x.2)).size + (1 : Nat)) : Int) ≤ (9223372036854775807 : Int) ∧ ByteArray.mk (Array.mk ((Pl.spell x.1 (List.take x_1 x.2)).data.toList ++ [(41 : UInt8)])) = Pl.textT (Pl.Tree.mk x.1 x.2))
 (Pl.spell x.1 (List.take x_1 x.2) = Pl.textT (Pl.Tree.mk x.1 x.2)))) = Goal Tryd.prog [(K_l4Text n)] (A_l4Text x.1 x.2) (K_l4Text (n + 1)).1 (K_l4Text (n + 1)).2 (x) := by kernel_rfl

theorem vc_termText (n : Nat) (x : Pl.TP) : (condP ((↑x.2.length : Int) == (0 : Int)) (x.1 = Pl.textT (Pl.Tree.mk x.1 x.2))
 ((∃ x_1 : Nat,
 (x_1 ≤ x.2.length ∧ x.2 ≠ []) ∧ ((0 : Nat) = (0 : Nat) ∧ ((0 : Nat) = (0 : Nat) ∧ (0 : Nat) = (0 : Nat) ∧ (Pl.textL (List.take x_1 x.2)).length = (0 : Nat)) ∧ Is (terms x.2) (terms x.2) ∧ (↑x.2.length : Int) = (↑x.2.length : Int) ∧ (0 : Int) = (↑x_1 : Int) ∧ True) ∧ (x.1 = x.1 ∧ Is (terms x.2) (terms x.2) ∧ True) ∧ (Pl.textL (List.take x_1 x.2)).length = (0 : Nat) ∧ True) ∧ ∀ (x_1 : Nat),
 x_1 ≤ x.2.length ∧ x.2 ≠ [] →
 condP (decide ((↑x_1 : Int) < (↑x.2.length : Int)))
 (((0 : Int) ≤ (↑x_1 : Int) ∧ (↑x_1 : Int) < (↑x.2.length : Int)) ∧ x_1 < x.2.length ∧ ∃ x_2 : Pl.TP,
 ((Pl.Tree.val (x.2.getD x_1 Pl.dT) = x_2.1 ∧ Is (kidsT (x.2.getD x_1 Pl.dT)) (terms x_2.2) ∧ True) ∧ True) ∧ (SmT (Pl.Tree.mk x_2.1 x_2.2) ∧ Pl.manyL x_2.2 < n) ∧ (0 : Nat) + (Pl.textL (List.take x_1 x.2)).length ≤ (Pl.textL (List.take x_1 x.2)).length ∧ ((Pl.textL (List.take x_1 x.2)).length + (1 : Nat)) * (16 : Nat) ≤ (70368744177664 : Nat) ∧ Exists fun (x' : Nat) =>
 (x' ≤ x.2.length ∧ x.2 ≠ []) ∧ x.2.length - x' < x.2.length - x_1 ∧ ((0 : Nat) = (0 : Nat) ∧ ((0 : Nat) = (0 : Nat) ∧ (Pl.textL (List.take x_1 x.2)).length + (1 : Nat) = (Pl.textL (List.take x' x.2)).length) ∧ Is (terms x.2) (terms x.2) ∧ (↑x.2.length : Int) = (↑x.2.length : Int) ∧ IntKind.i64.wrap ((↑x_1 : Int) + (1 : Int)) = (↑x' : Int) ∧ True) ∧ (x.1 = x.1 ∧ Is (terms x.2) (terms x.2) ∧ True) ∧ IsO
 (AObj.arr ((Pl.textL (List.take x_1 x.2)).length + (1 : Nat)) (1 : Nat)
 (joinC (Pl.textL (List.take x_1 x.2)).length (cS (Pl.textL (List.take x_1 x.2))) (rowsCell [[st (Pl.textT (Pl.Tree.mk x_2.1 x_2.2))]])))
 (arS (Pl.textL (List.take x' x.2))) ∧ True)
 ((↑(x.1.size + (1 : Nat)) : Int) ≤ (9223372036854775807 : Int) ∧ (0 : Nat) + (Pl.textL (List.take x_1 x.2)).length ≤ (Pl.textL (List.take x_1 x.2)).length ∧ ∃ x_2 : List ByteArray × ByteArray,
 (Is (strs (Pl.textL (List.take x_1 x.2))) (strs x_2.1) ∧ ByteArray.mk #[(44 : UInt8)] = x_2.2 ∧ True) ∧ (x_2.1.length ≤ (140737488355328 : Nat) ∧ (Pl.joinS x_2.1 x_2.2).size ≤ (140737488355328 : Nat)) ∧ (↑((ByteArray.mk (Array.mk (x.1.data.toList ++ [(40 : UInt8)]))).size + (Pl.joinS x_2.1 x_2.2).size) : Int) ≤ (9223372036854775807 : Int) ∧ (↑((ByteArray.mk (Array.mk ((ByteArray.mk (Array.mk (x.1.data.toList ++ [(40 : UInt8)]))).data.toList ++ (Pl.joinS x_2.1 x_2.2).data.toList))).size + (1 : Nat)) : Int) ≤
 (9223372036854775807 : Int) ∧ ByteArray.mk
 (Array.mk
 ((ByteArray.mk (Array.mk ((ByteArray.mk (Array.mk (x.1.data.toList ++ [(40 : UInt8)]))).data.toList ++ (Pl.joinS x_2.1 x_2.2).data.toList))).data.toList ++
 [(41 : UInt8)])) =
 Pl.textT (Pl.Tree.mk x.1 x.2)))) = Goal Tryd.prog [(K_termText n), K_Join] (A_termText x.1 x.2) (K_termText (n + 1)).1 (K_termText (n + 1)).2 (x) := by kernel_rfl

theorem vc_isNone (x : Pl.TP) : (condP (x.1.toList == (ByteArray.mk #[]).toList) (((↑x.2.length : Int) == (0 : Int)) = Pl.noneT x) (false = Pl.noneT x)) = Goal Tryd.prog [] ([]) K_isNone.1 K_isNone.2 (x) := by kernel_rfl

theorem vc_Atomok (x : Pl.Atm) : (condP (x.1 == (1 : Int))
 (∃ x_1 : Pl.TP,
 ((x.2.1.1 = x_1.1 ∧ Is (terms x.2.1.2) (terms x_1.2) ∧ True) ∧ True) ∧ SmT (Pl.Tree.mk x_1.1 x_1.2) ∧ condP (Pl.right (Pl.Tree.mk x_1.1 x_1.2))
 (∃ x_2 : Pl.TP,
 ((x.2.2.1.1 = x_2.1 ∧ Is (terms x.2.2.1.2) (terms x_2.2) ∧ True) ∧ True) ∧ SmT (Pl.Tree.mk x_2.1 x_2.2) ∧ condP (Pl.right (Pl.Tree.mk x_2.1 x_2.2))
 (condP ((↑x.2.2.2.1.length : Int) == (0 : Int))
 (condP ((↑x.2.2.2.2.1.length : Int) == (0 : Int))
 (condP (x.2.2.2.2.2.1 == (0 : Int)) ((!x.2.2.2.2.2.2) = Pl.atomRight x) (false = Pl.atomRight x)) (false = Pl.atomRight x))
 (false = Pl.atomRight x))
 (false = Pl.atomRight x))
 (false = Pl.atomRight x))
 (condP (x.1 == (2 : Int))
 (∃ x_1 : Pl.TP,
 ((x.2.1.1 = x_1.1 ∧ Is (terms x.2.1.2) (terms x_1.2) ∧ True) ∧ True) ∧ True ∧ condP (!Pl.noneT x_1) (false = Pl.atomRight x)
 (∃ x_2 : Pl.TP,
 ((x.2.2.1.1 = x_2.1 ∧ Is (terms x.2.2.1.2) (terms x_2.2) ∧ True) ∧ True) ∧ True ∧ condP (!Pl.noneT x_2) (false = Pl.atomRight x)
 (∃ x_3 : Int × Int × Int,
 ((↑x.2.2.2.1.length : Int) = x_3.1 ∧ (1 : Int) = x_3.2.1 ∧ (4 : Int) = x_3.2.2 ∧ True) ∧ True ∧ condP (!Pl.withinI x_3.1 x_3.2.1 x_3.2.2) (false = Pl.atomRight x)
 (condP ((↑x.2.2.2.2.1.length : Int) != (↑x.2.2.2.1.length : Int)) (false = Pl.atomRight x)
 (∃ x_4 : Int × Int × Int,
 (x.2.2.2.2.2.1 = x_4.1 ∧ (-1000 : Int) = x_4.2.1 ∧ (1000 : Int) = x_4.2.2 ∧ True) ∧ True ∧ condP (!Pl.withinI x_4.1 x_4.2.1 x_4.2.2) (false = Pl.atomRight x)
 ((∃ x_5 : Nat,
 (x.1 = (2 : Int) ∧ Pl.sumHead x = true ∧ x_5 ≤ x.2.2.2.1.length ∧ Pl.numOk Option.none x.2.2.2.1 x.2.2.2.2.1 =
 Pl.numOk (Pl.prevN x.2.2.2.1 x_5) (List.drop x_5 x.2.2.2.1) (List.drop x_5 x.2.2.2.2.1)) ∧ ((0 : Nat) = (0 : Nat) ∧ Is (terms x.2.2.2.1) (terms x.2.2.2.1) ∧ (↑x.2.2.2.1.length : Int) = (↑x.2.2.2.1.length : Int) ∧ (0 : Int) = (↑x_5 : Int) ∧ True) ∧ (x.1 = x.1 ∧ x.2.1.1 = x.2.1.1 ∧ Is (terms x.2.1.2) (terms x.2.1.2) ∧ x.2.2.1.1 = x.2.2.1.1 ∧ Is (terms x.2.2.1.2) (terms x.2.2.1.2) ∧ Is (terms x.2.2.2.1) (terms x.2.2.2.1) ∧ Is (ints x.2.2.2.2.1) (ints x.2.2.2.2.1) ∧ x.2.2.2.2.2.1 = x.2.2.2.2.2.1 ∧ x.2.2.2.2.2.2 = x.2.2.2.2.2.2 ∧ True) ∧ True) ∧ ∀ (x_5 : Nat),
 x.1 = (2 : Int) ∧ Pl.sumHead x = true ∧ x_5 ≤ x.2.2.2.1.length ∧ Pl.numOk Option.none x.2.2.2.1 x.2.2.2.2.1 =
 Pl.numOk (Pl.prevN x.2.2.2.1 x_5) (List.drop x_5 x.2.2.2.1) (List.drop x_5 x.2.2.2.2.1) →
 condP (decide ((↑x_5 : Int) < (↑x.2.2.2.1.length : Int)))
 (((0 : Int) ≤ (↑x_5 : Int) ∧ (↑x_5 : Int) < (↑x.2.2.2.1.length : Int)) ∧ x_5 < x.2.2.2.1.length ∧ ∃ x_6 : Pl.TP,
 ((Pl.Tree.val (x.2.2.2.1.getD x_5 Pl.dT) = x_6.1 ∧ Is (kidsT (x.2.2.2.1.getD x_5 Pl.dT)) (terms x_6.2) ∧ True) ∧ True) ∧ SmT (Pl.Tree.mk x_6.1 x_6.2) ∧ condP (!Pl.right (Pl.Tree.mk x_6.1 x_6.2)) (false = Pl.atomRight x)
 (((0 : Int) ≤ (↑x_5 : Int) ∧ (↑x_5 : Int) < (↑x.2.2.2.2.1.length : Int)) ∧ x_5 < x.2.2.2.2.1.length ∧ ∃ x_7 : Int × Int × Int,
 (x.2.2.2.2.1.getD x_5 (0 : Int) = x_7.1 ∧ (-50 : Int) = x_7.2.1 ∧ (50 : Int) = x_7.2.2 ∧ True) ∧ True ∧ condP (!Pl.withinI x_7.1 x_7.2.1 x_7.2.2) (false = Pl.atomRight x)
 (((0 : Int) ≤ (↑x_5 : Int) ∧ (↑x_5 : Int) < (↑x.2.2.2.2.1.length : Int)) ∧ x_5 < x.2.2.2.2.1.length ∧ condP (x.2.2.2.2.1.getD x_5 (0 : Int) == (0 : Int)) (false = Pl.atomRight x)
 (condP (decide ((↑x_5 : Int) > (0 : Int)))
 (((0 : Int) ≤ IntKind.i64.wrap ((↑x_5 : Int) - (1 : Int)) ∧ IntKind.i64.wrap ((↑x_5 : Int) - (1 : Int)) < (↑x.2.2.2.1.length : Int)) ∧ (IntKind.i64.wrap ((↑x_5 : Int) - (1 : Int))).toNat < x.2.2.2.1.length ∧ ∃ x_8 : Pl.TP,
 ((Pl.Tree.val (x.2.2.2.1.getD (IntKind.i64.wrap ((↑x_5 : Int) - (1 : Int))).toNat Pl.dT) = x_8.1 ∧ Is (kidsT (x.2.2.2.1.getD (IntKind.i64.wrap ((↑x_5 : Int) - (1 : Int))).toNat Pl.dT))
 (terms x_8.2) ∧ True) ∧ True) ∧ SmT (Pl.Tree.mk x_8.1 x_8.2) ∧ ∃ x_9 : Pl.TP,
 ((Pl.Tree.val (x.2.2.2.1.getD x_5 Pl.dT) = x_9.1 ∧ Is (kidsT (x.2.2.2.1.getD x_5 Pl.dT)) (terms x_9.2) ∧ True) ∧ True) ∧ SmT (Pl.Tree.mk x_9.1 x_9.2) ∧ condP
 (!Op.bytesLess (Pl.textT (Pl.Tree.mk x_8.1 x_8.2)).toList
 (Pl.textT (Pl.Tree.mk x_9.1 x_9.2)).toList)
 (false = Pl.atomRight x)
 (Exists fun (x' : Nat) =>
 (x.1 = (2 : Int) ∧ Pl.sumHead x = true ∧ x' ≤ x.2.2.2.1.length ∧ Pl.numOk Option.none x.2.2.2.1 x.2.2.2.2.1 =
 Pl.numOk (Pl.prevN x.2.2.2.1 x') (List.drop x' x.2.2.2.1)
 (List.drop x' x.2.2.2.2.1)) ∧ x.2.2.2.1.length - x' < x.2.2.2.1.length - x_5 ∧ ((0 : Nat) = (0 : Nat) ∧ Is (terms x.2.2.2.1) (terms x.2.2.2.1) ∧ (↑x.2.2.2.1.length : Int) = (↑x.2.2.2.1.length : Int) ∧ IntKind.i64.wrap ((↑x_5 : Int) + (1 : Int)) = (↑x' : Int) ∧ True) ∧ (x.1 = x.1 ∧ x.2.1.1 = x.2.1.1 ∧ Is (terms x.2.1.2) (terms x.2.1.2) ∧ x.2.2.1.1 = x.2.2.1.1 ∧ Is (terms x.2.2.1.2) (terms x.2.2.1.2) ∧ Is (terms x.2.2.2.1) (terms x.2.2.2.1) ∧ Is (ints x.2.2.2.2.1) (ints x.2.2.2.2.1) ∧ x.2.2.2.2.2.1 = x.2.2.2.2.2.1 ∧ x.2.2.2.2.2.2 = x.2.2.2.2.2.2 ∧ True) ∧ True))
 (Exists fun (x' : Nat) =>
 (x.1 = (2 : Int) ∧ Pl.sumHead x = true ∧ x' ≤ x.2.2.2.1.length ∧ Pl.numOk Option.none x.2.2.2.1 x.2.2.2.2.1 =
 Pl.numOk (Pl.prevN x.2.2.2.1 x') (List.drop x' x.2.2.2.1)
 (List.drop x' x.2.2.2.2.1)) ∧ x.2.2.2.1.length - x' < x.2.2.2.1.length - x_5 ∧ ((0 : Nat) = (0 : Nat) ∧ Is (terms x.2.2.2.1) (terms x.2.2.2.1) ∧ (↑x.2.2.2.1.length : Int) = (↑x.2.2.2.1.length : Int) ∧ IntKind.i64.wrap ((↑x_5 : Int) + (1 : Int)) = (↑x' : Int) ∧ True) ∧ (x.1 = x.1 ∧ x.2.1.1 = x.2.1.1 ∧ Is (terms x.2.1.2) (terms x.2.1.2) ∧ x.2.2.1.1 = x.2.2.1.1 ∧ Is (terms x.2.2.1.2) (terms x.2.2.1.2) ∧ Is (terms x.2.2.2.1) (terms x.2.2.2.1) ∧ Is (ints x.2.2.2.2.1) (ints x.2.2.2.2.1) ∧ x.2.2.2.2.2.1 = x.2.2.2.2.2.1 ∧ x.2.2.2.2.2.2 = x.2.2.2.2.2.2 ∧ True) ∧ True)))))
 (true = Pl.atomRight x)))))))
 (false = Pl.atomRight x))) = Goal Tryd.prog [K_isTerm, K_isNone, K_within, K_tText] (A_Atomok x) K_Atomok.1 K_Atomok.2 (x) := by kernel_rfl

end Cg

/-
  What is left to show of each function's code, printed by a program: Mtm. No condition.
-/
set_option maxRecDepth 100000
set_option linter.unusedVariables false
namespace Cg
open Go Go.Proofs
end Cg

/-
  The codes' contracts: the values of terms. No condition.
-/
set_option linter.unusedVariables false
set_option linter.unusedSimpArgs false
set_option maxRecDepth 100000
set_option maxHeartbeats 1000000
namespace Pl
open Go Cg
theorem take_getD {α : Type} (d : α) {l : List α} {i : Nat} (h : i < l.length) : l.take (i + 1) = l.take i ++ [l.getD i d] := by
  rw [List.take_succ_eq_append_getElem h]; simp [h]
end Pl
namespace Cg
open Go Go.Proofs Pl

end Cg

/-
  The library functions' contracts at this program, laid by the kit's own programs (lay-shelf, lay-plain). No condition.
-/
namespace Go.Proofs
open Go.Shelf
def Tryd.lays169_ren : Go.Shelf.Ren := ⟨fun | 169 => 71 | n => n, fun | 70 => 105 | 9 => 9 | 0 => 0 | 72 => 107 | 37 => 47 | 127 => 143 | 3 => 3 | 5 => 5 | n => n, fun | n => n⟩
def Tryd.lays156_ren : Go.Shelf.Ren := ⟨fun | 156 => 119 | 165 => 149 | 166 => 69 | 169 => 71 | 240 => 104 | 241 => 157 | 276 => 131 | 277 => 162 | n => n, fun | 31 => 157 | 9 => 9 | 3 => 3 | 4 => 4 | 0 => 0 | 20 => 20 | 72 => 107 | 76 => 110 | 70 => 105 | 37 => 47 | 75 => 109 | 127 => 143 | 164 => 164 | 5 => 5 | 80 => 112 | n => n, fun | n => n⟩
theorem Tryd.lays156 : Go.Proofs.Lays.n156 Tryd.prog Tryd.lays156_ren := {
  mixed := by kernel_rfl
  f156 := Tryd.func119.trans (congrArg some (by kernel_rfl))
  f165 := Tryd.func149.trans (congrArg some (by kernel_rfl))
  f166 := Tryd.func69.trans (congrArg some (by kernel_rfl))
  f169 := Tryd.func71.trans (congrArg some (by kernel_rfl))
  f240 := Tryd.func104.trans (congrArg some (by kernel_rfl))
  f241 := Tryd.func157.trans (congrArg some (by kernel_rfl))
  f276 := Tryd.func131.trans (congrArg some (by kernel_rfl))
  f277 := Tryd.func162.trans (congrArg some (by kernel_rfl))
  t0 := Tryd.underlying0
  a0 := Tryd.isAgg0
  z0 := Tryd.sizeOf0
  v0 := Tryd.zeroValue0
  t3 := Tryd.underlying3
  a3 := Tryd.isAgg3
  z3 := Tryd.sizeOf3
  v3 := Tryd.zeroValue3
  t4 := Tryd.underlying4
  a4 := Tryd.isAgg4
  z4 := Tryd.sizeOf4
  v4 := Tryd.zeroValue4
  t9 := Tryd.underlying9
  a9 := Tryd.isAgg9
  z9 := Tryd.sizeOf9
  v9 := Tryd.zeroValue9
  t20 := Tryd.underlying20
  a20 := Tryd.isAgg20
  z20 := Tryd.sizeOf20
  v20 := Tryd.zeroValue20
  t31 := Tryd.underlying157
  a31 := Tryd.isAgg157
  z31 := Tryd.sizeOf157
  v31 := Tryd.zeroValue157
  t37 := Tryd.underlying47
  a37 := Tryd.isAgg47
  z37 := Tryd.sizeOf47
  v37 := Tryd.zeroValue47
  t70 := Tryd.underlying105
  a70 := Tryd.isAgg105
  z70 := Tryd.sizeOf105
  v70 := Tryd.zeroValue105
  t72 := Tryd.underlying107
  a72 := Tryd.isAgg107
  z72 := Tryd.sizeOf107
  v72 := Tryd.zeroValue107
  t75 := Tryd.underlying109
  a75 := Tryd.isAgg109
  z75 := Tryd.sizeOf109
  v75 := Tryd.zeroValue109
  t76 := Tryd.underlying110
  a76 := Tryd.isAgg110
  z76 := Tryd.sizeOf110
  v76 := Tryd.zeroValue110
  t127 := Tryd.underlying143
  a127 := Tryd.isAgg143
  z127 := Tryd.sizeOf143
  v127 := Tryd.zeroValue143
  t164 := Tryd.underlying164
  a164 := Tryd.isAgg164
  z164 := Tryd.sizeOf164
  v164 := Tryd.zeroValue164 }
theorem Tryd.Builder_Extra_156 : Builder.Extra Tryd.prog Tryd.lays156_ren := {
  sizeBuilder := by kernel_rfl
  liesBuilder := by kernel_rfl
  t5 := Tryd.underlying5
  a5 := Tryd.isAgg5
  z5 := Tryd.sizeOf5
  v5 := Tryd.zeroValue5
  infoByte := by kernel_rfl
  cellsByte := by kernel_rfl
  sizeByte := by kernel_rfl
  neB5 := by decide }
open Go.RowKit in
theorem Tryd.strings_Join_none (a : Option Addr) (c : Nat) (sep : ByteArray) (w : World) :
    Calls Tryd.prog 119 #[.slice a 0 c, .string sep] w fun e w' => e = .returned (.string ⟨#[]⟩) ∧ w' = w := Any.strings_Join_none Tryd.lays156 Tryd.Builder_Extra_156 a c sep w
open Go.RowKit in
theorem Tryd.strings_Join (bk o c : Nat) (xs : List ByteArray) (sep : ByteArray) (w : World) (hcells : ∀ (j : Nat) x, xs[j]? = some x → w.cell? ⟨bk, o + j, none⟩ = some (.string x)) (hbk : bk < w.heap.size) (hN : xs.length ≤ 140737488355328) (hcap : xs.length ≤ c) (hlen : (Lib.join (xs.map (·.data.toList)) sep.data.toList).length ≤ 140737488355328) :
    Calls Tryd.prog 119 #[.slice (some ⟨bk, o, none⟩) xs.length c, .string sep] w fun e w' => e = .returned (.string ⟨(Lib.join (xs.map (·.data.toList)) sep.data.toList).toArray⟩) ∧ Below w.heap.size w w' := Any.strings_Join Tryd.lays156 Tryd.Builder_Extra_156 bk o c xs sep w hcells hbk hN hcap hlen
def Tryd.laysM171_ren : Go.Shelf.Ren := ⟨fun | 171 => 86 | 243 => 120 | 246 => 150 | 283 => 158 | 284 => 159 | 285 => 160 | 286 => 161 | 129 => 164 | 317 => 163 | 318 => 165 | 319 => 166 | 320 => 167 | 337 => 168 | 338 => 169 | n => n, fun | 3 => 3 | 9 => 9 | 2 => 2 | 4 => 4 | 171 => 181 | 0 => 0 | 53 => 182 | 37 => 47 | 5 => 5 | 173 => 185 | 212 => 189 | 51 => 190 | 20 => 20 | 213 => 191 | 46 => 192 | 232 => 195 | 233 => 196 | n => n, fun | 17 => 0 | 18 => 2 | 19 => 3 | n => n⟩
theorem Tryd.laysM171 : Go.Proofs.LaysM.n171 Tryd.prog Tryd.laysM171_ren := {
  mixed := by kernel_rfl
  f129 := Tryd.func164.trans (congrArg some (by kernel_rfl))
  f171 := Tryd.func86.trans (congrArg some (by kernel_rfl))
  f243 := Tryd.func120.trans (congrArg some (by kernel_rfl))
  f246 := Tryd.func150.trans (congrArg some (by kernel_rfl))
  f283 := Tryd.func158.trans (congrArg some (by kernel_rfl))
  f284 := Tryd.func159.trans (congrArg some (by kernel_rfl))
  f285 := Tryd.func160.trans (congrArg some (by kernel_rfl))
  f286 := Tryd.func161.trans (congrArg some (by kernel_rfl))
  f317 := Tryd.func163.trans (congrArg some (by kernel_rfl))
  f318 := Tryd.func165.trans (congrArg some (by kernel_rfl))
  f319 := Tryd.func166.trans (congrArg some (by kernel_rfl))
  f320 := Tryd.func167.trans (congrArg some (by kernel_rfl))
  f337 := Tryd.func168.trans (congrArg some (by kernel_rfl))
  f338 := Tryd.func169.trans (congrArg some (by kernel_rfl))
  t0 := Tryd.underlying0
  a0 := Tryd.isAgg0
  z0 := Tryd.sizeOf0
  v0 := Tryd.zeroValue0
  t2 := Tryd.underlying2
  a2 := Tryd.isAgg2
  z2 := Tryd.sizeOf2
  v2 := Tryd.zeroValue2
  t3 := Tryd.underlying3
  a3 := Tryd.isAgg3
  z3 := Tryd.sizeOf3
  v3 := Tryd.zeroValue3
  t4 := Tryd.underlying4
  a4 := Tryd.isAgg4
  z4 := Tryd.sizeOf4
  v4 := Tryd.zeroValue4
  t5 := Tryd.underlying5
  a5 := Tryd.isAgg5
  z5 := Tryd.sizeOf5
  v5 := Tryd.zeroValue5
  t9 := Tryd.underlying9
  a9 := Tryd.isAgg9
  z9 := Tryd.sizeOf9
  v9 := Tryd.zeroValue9
  t20 := Tryd.underlying20
  a20 := Tryd.isAgg20
  z20 := Tryd.sizeOf20
  v20 := Tryd.zeroValue20
  t37 := Tryd.underlying47
  a37 := Tryd.isAgg47
  z37 := Tryd.sizeOf47
  v37 := Tryd.zeroValue47
  t46 := Tryd.underlying192
  a46 := Tryd.isAgg192
  z46 := Tryd.sizeOf192
  v46 := Tryd.zeroValue192
  t51 := Tryd.underlying190
  a51 := Tryd.isAgg190
  z51 := Tryd.sizeOf190
  v51 := Tryd.zeroValue190
  t53 := Tryd.underlying182
  a53 := Tryd.isAgg182
  z53 := Tryd.sizeOf182
  v53 := Tryd.zeroValue182
  t171 := Tryd.underlying181
  a171 := Tryd.isAgg181
  z171 := Tryd.sizeOf181
  v171 := Tryd.zeroValue181
  t173 := Tryd.underlying185
  a173 := Tryd.isAgg185
  z173 := Tryd.sizeOf185
  v173 := Tryd.zeroValue185
  t212 := Tryd.underlying189
  a212 := Tryd.isAgg189
  z212 := Tryd.sizeOf189
  v212 := Tryd.zeroValue189
  t213 := Tryd.underlying191
  a213 := Tryd.isAgg191
  z213 := Tryd.sizeOf191
  t232 := Tryd.underlying195
  a232 := Tryd.isAgg195
  z232 := Tryd.sizeOf195
  v232 := Tryd.zeroValue195
  t233 := Tryd.underlying196
  a233 := Tryd.isAgg196
  z233 := Tryd.sizeOf196
  v233 := Tryd.zeroValue196
  g17 := by kernel_rfl
  g18 := by kernel_rfl
  g19 := by kernel_rfl
  i0 := by kernel_rfl
  i2 := by kernel_rfl
  i3 := by kernel_rfl
  i4 := by kernel_rfl
  i5 := by kernel_rfl
  i9 := by kernel_rfl
  i20 := by kernel_rfl
  i37 := by kernel_rfl
  i46 := by kernel_rfl
  i51 := by kernel_rfl
  i53 := by kernel_rfl
  i171 := by kernel_rfl
  i173 := by kernel_rfl
  i212 := by kernel_rfl
  i232 := by kernel_rfl
  i233 := by kernel_rfl
  m17 := by kernel_rfl
  m18 := by kernel_rfl
  m19 := by kernel_rfl }
open Go.RowKit Go.Sort Go.Lib in
theorem Tryd.strconv_Itoa (n : Int) (h0 : -9223372036854775808 ≤ n) (h1 : n ≤ 9223372036854775807) (w : World) (htab : Lib.TabIs Tryd.prog w "internal/strconv.uint64pow10" .u64 Lib.pow10Tab) :
    Calls Tryd.prog 86 #[.int .i64 n] w fun e w' => e = .returned (.string ⟨(Lib.itoa n).toArray⟩) ∧ ∃ k os, w' = grow (w.drewN k) os := Any.strconv_Itoa Tryd.laysM171 n h0 h1 w htab
def Tryd.lays166_ren : Go.Shelf.Ren := ⟨fun | 166 => 69 | 240 => 104 | 276 => 131 | n => n, fun | 0 => 0 | 3 => 3 | 4 => 4 | 5 => 5 | 9 => 9 | 20 => 20 | 37 => 47 | 70 => 105 | 72 => 107 | 75 => 109 | 80 => 112 | 164 => 164 | n => n, fun | n => n⟩
end Go.Proofs

/-
  The library's contracts: joined texts. No condition.
-/
set_option linter.unusedVariables false
set_option linter.unusedSimpArgs false
namespace Pl
open Go
theorem interL_eq (sep : List UInt8) : ∀ xs : List (List UInt8), Go.Lib.join xs sep = interL sep xs
  | [] => rfl
  | [x] => by simp [Go.Lib.join, List.intercalate, interL]
  | x :: y :: r => by
    have := interL_eq sep (y :: r)
    simp only [Go.Lib.join, List.intercalate, List.intersperse_cons_cons, List.flatten_cons] at this ⊢
    rw [interL, ← this]; simp
end Pl
namespace Cg
open Go Go.Proofs Pl
theorem Ext.ofBelow {w w' : World} (h : Go.RowKit.Below w.heap.size w w') : Ext w w' := ⟨h.os, h.tape, h.output, h.size, h.block⟩
theorem k_Join : SoundC Tryd.prog K_Join.1 K_Join.2 := ⟨callable_of (by kernel_rfl), fun x hx S w vals hin hgl hrel => by
  obtain ⟨xs, sep⟩ := x
  obtain ⟨h1, h2⟩ : xs.length ≤ 140737488355328 ∧ (joinS xs sep).size ≤ 140737488355328 := hx
  obtain ⟨y0, r0, rfl, ha, y1, r1, rfl, hb, hc⟩ := hrel
  cases hc
  obtain ⟨a, cap, rfl, hcap, ha⟩ := ha
  have hb : y1 = .string sep := hb
  subst hb
  have hj : (⟨(Go.Lib.join (xs.map (·.data.toList)) sep.data.toList).toArray⟩ : ByteArray) = joinS xs sep := by
    rw [interL_eq]; rfl
  rcases ha with h0 | ⟨b, off, rfl, hS, c, T, fr, hheap, hcells⟩
  · have e : xs = [] := List.length_eq_zero_iff.1 h0
    subst e
    exact (Tryd.strings_Join_none a cap sep w).mono fun e w' ⟨he, hw⟩ => by
      subst hw
      exact ⟨_, S, he, Ext.refl _, fun _ h => h, fun _ h => .inl h, hin, rfl⟩
  · refine (Tryd.strings_Join b off cap xs sep w (fun j x hj => ?_) (hin b hS) h1 hcap (by
      have : (joinS xs sep).size = (Go.Lib.join (xs.map (·.data.toList)) sep.data.toList).length := by rw [← hj]; simp [ByteArray.size]
      omega)).mono fun e w' ⟨he, hw⟩ => ?_
    · obtain ⟨hlt, e⟩ := List.getElem?_eq_some_iff.1 hj
      obtain ⟨y, h3, h4⟩ := hcells j hlt 0 (by decide)
      have h4' : RelI S w (.v (.string (xs.getD j ByteArray.empty))) y := h4
      rw [RelI] at h4'
      have h5 : y = .string (xs.getD j ByteArray.empty) := h4'.1
      rw [h5] at h3
      simp only [Nat.mul_one, Nat.add_zero] at h3
      simp only [World.cell?, hheap, h3]
      simp [← e, hlt]
    · rw [hj] at he
      exact ⟨_, S, he, Ext.ofBelow hw, fun _ h => h, fun _ h => .inl h, fun b hb => Nat.lt_of_lt_of_le (hin b hb) hw.size, rfl⟩⟩
end Cg

/-
  The codes' contracts: valid atoms. No condition.
-/
set_option linter.unusedVariables false
set_option linter.unusedSimpArgs false
set_option maxRecDepth 100000
set_option maxHeartbeats 1000000
namespace Pl
open Go Cg
theorem textBs_map : ∀ l : List Tm, textBs l = l.map textB
  | [] => rfl
  | t :: ts => by simp only [textBs, List.map_cons, textBs_map ts]
theorem interL_snoc {sep t : List UInt8} : ∀ {ts : List (List UInt8)}, ts ≠ [] → interL sep (ts ++ [t]) = interL sep ts ++ sep ++ t
  | [], h => absurd rfl h
  | [x], _ => by simp [interL]
  | x :: y :: r, _ => by
    have := interL_snoc (sep := sep) (t := t) (ts := y :: r) (by simp)
    simp only [List.cons_append] at this ⊢
    simp only [interL, this, List.append_assoc]
theorem interL_len (sep : List UInt8) (h1 : sep.length = 1) : ∀ ts : List (List UInt8), (interL sep ts).length ≤ sumN List.length ts + ts.length - 1
  | [] => by simp [interL]
  | [x] => by simp [interL, sumN]
  | x :: y :: r => by
    have := interL_len sep h1 (y :: r)
    simp only [interL, List.length_append, sumN, List.length_cons] at this ⊢
    omega
theorem textB_mk (v : ByteArray) (ks : List Tm) : textB (.mk v ks) = if ks = [] then bl' v else spellB (bl' v) (textBs ks) ++ [41] := by
  rw [textB]
  cases ks with
  | nil => rfl
  | cons k r => simp [spellB, textBs]
theorem spellB_step {v : List UInt8} {l : List Tm} {k : Nat} (h : k < l.length) : spellB v (textBs (l.take (k + 1))) = (spellB v (textBs (l.take k)) ++ [if k = 0 then 40 else 44]) ++ textB (l.getD k dT) := by
  rw [take_getD dT h, textBs_map, textBs_map, List.map_append]
  unfold spellB
  by_cases h0 : k = 0
  · subst h0; simp [interL]
  · have hne : (l.take k).map textB ≠ [] := by
      intro e
      have := congrArg List.length e
      rw [List.length_map, List.length_take, List.length_nil] at this
      omega
    have h2 : ((l.take k).map textB).isEmpty = false := by cases hh : (l.take k).map textB with
      | nil => exact absurd hh hne
      | cons _ _ => rfl
    have h3 : ((l.take k).map textB ++ [l.getD k dT].map textB).isEmpty = false := by cases hh : (l.take k).map textB with
      | nil => exact absurd hh hne
      | cons _ _ => rfl
    rw [h2, h3, if_neg h0]
    simp only [List.map_cons, List.map_nil, Bool.false_eq_true, if_false]
    rw [interL_snoc hne]; simp only [List.append_assoc]
mutual
theorem textB_len : ∀ t : Tm, (textB t).length ≤ 2 * costT t
  | .mk v ks => by
    have h := textBs_len ks
    have hl := interL_len [44] rfl (textBs ks)
    have hm : (textBs ks).length = ks.length := by rw [textBs_map]; simp
    rw [textB_mk]
    rw [costT]
    have e : (bl' v).length = v.size := rfl
    by_cases h0 : ks = []
    · rw [if_pos h0]; omega
    · rw [if_neg h0]
      have hp : 0 < ks.length := by cases ks with
        | nil => exact absurd rfl h0
        | cons _ _ => simp
      have hq : (textBs ks).isEmpty = false := by cases hh : textBs ks with
        | nil => rw [hh] at hm; simp at hm; omega
        | cons _ _ => rfl
      unfold spellB
      rw [hq]
      simp only [Bool.false_eq_true, if_false, List.length_append, List.length_singleton]
      omega
theorem textBs_len : ∀ l : List Tm, sumN List.length (textBs l) ≤ 2 * costTs l
  | [] => by simp [textBs, sumN]
  | t :: ts => by
    have h1 := textB_len t
    have h2 := textBs_len ts
    simp only [textBs, sumN, costTs]
    omega
end
theorem spellB_len (v : List UInt8) (l : List Tm) (k : Nat) : (spellB v (textBs (l.take k))).length ≤ v.length + 2 * costTs l + l.length + 1 := by
  have h := textBs_len l
  have e : textBs (l.take k) = (textBs l).take k := by rw [textBs_map, textBs_map, List.map_take]
  have hl := interL_len [44] rfl (textBs (l.take k))
  have hs := sumN_take_le List.length (textBs l) k
  have hm : (textBs (l.take k)).length ≤ l.length := by rw [textBs_map]; simp; omega
  rw [e] at hl hm ⊢
  unfold spellB
  split
  · omega
  · simp only [List.length_append, List.length_singleton]; omega
theorem textL_join (l : List Tm) : joinS (textL l) ⟨#[44]⟩ = mkB (interL [44] (textBs l)) := by
  unfold joinS textL
  rw [textBs_map, List.map_map]
  rfl
@[simp] theorem mkB_list (l : List UInt8) : (mkB l).data.toList = l := rfl
@[simp] theorem mkB_size (l : List UInt8) : (mkB l).size = l.length := rfl
end Pl
namespace Cg
open Go Go.Proofs Pl
theorem k_l4Text (n : Nat) : SoundC Tryd.prog (K_l4Text n).1 (K_l4Text n).2 := by
  induction n with
  | zero => exact sound_of hm CtxOK.nil (fun _ => []) (by kernel_rfl) fun x h => absurd h.2 (Nat.not_lt_zero _)
  | succ n ih => exact sound_of hm (CtxOK.nil.and (K := K_l4Text n) ih) (fun x => A_l4Text x.1 x.2) (by kernel_rfl) fun (x : TP) hl => (by
      have ht : SmT (.mk x.1 x.2) := hl.1
      have hn : manyL x.2 < n + 1 := hl.2
      clear hl
      rw [← vc_l4Text n x]
      obtain ⟨a, b⟩ := x
      dsimp only at *
      simp [-List.getD_eq_getElem?_getD, -List.mem_cons, -Bool.forall_bool, -Bool.exists_bool, and_assoc, peta, tl_inj, ex_1, ex_2, ex_3, ex_4, ex_5, ex_6, ex_7, ex_8, ex_9, ey_2, ey_3, ey_4, ey_5, ey_6, ey_7, ey_8, ey_9]
      have k1 := (SmT.kids ht).len
      have hc : a.size + b.length + costTs b ≤ 1048576 := by have h : costT (.mk a b) ≤ 1048576 := ht; rw [costT] at h; exact h
      have hb : (bl' a).length = a.size := rfl
      have hsz : ∀ k, (spell a (b.take k)).size ≤ 2097153 * 2 := fun k => by
        have := spellB_len (bl' a) b k
        show (spellB (bl' a) (textBs (b.take k))).length ≤ _
        omega
      have ht1 : ∀ t ∈ b, (textT t).size ≤ 2097152 := fun t h => by
        have h1 := textB_len t
        have h2 : costT t ≤ 1048576 := (SmT.kids ht).mem h
        show (textB t).length ≤ _
        omega
      have key : ∀ (k : Nat) (c : UInt8), k < b.length → c = (if k = 0 then 40 else 44) →
          ({ data := { toList := (spell a (List.take k b)).data.toList ++ c :: (textT (b.getD k dT)).data.toList } } : ByteArray) = spell a (b.take (k + 1)) := fun k c hk hc => by
        show mkB _ = mkB _
        rw [spellB_step hk, ← hc]
        congr 1
        show spellB (bl' a) (textBs (b.take k)) ++ c :: textB (b.getD k dT) = _
        simp
      have sz : ∀ (l : List UInt8) (c : UInt8), (ByteArray.mk ⟨l ++ [c]⟩).size = l.length + 1 := fun l c => by
        show (l ++ [c]).length = _
        simp
      refine ⟨⟨0, by simp, by show a = mkB _; rfl, rfl⟩, fun k hk => ⟨fun hlt => ⟨fun h0 => ?_, fun h0 => ?_⟩, fun hge => ⟨fun h0 => ?_, fun h0 => ?_⟩⟩⟩
      · have h1 := hsz k
        have h2 := ht1 _ (getD_mem dT hlt)
        refine ⟨by omega, hlt, (SmT.kids ht).mem (getD_mem dT hlt), by have := manyL_kids (getD_mem dT hlt); omega, ?_, k + 1, hlt, by omega, key k 40 hlt (by rw [if_pos h0]), wrap_small (by omega) (by omega)⟩
        rw [sz]
        have h3 : (spell a (b.take k)).data.toList.length = (spell a (b.take k)).size := rfl
        omega
      · have h1 := hsz k
        have h2 := ht1 _ (getD_mem dT hlt)
        refine ⟨by omega, hlt, (SmT.kids ht).mem (getD_mem dT hlt), by have := manyL_kids (getD_mem dT hlt); omega, ?_, k + 1, hlt, by omega, key k 44 hlt (by rw [if_neg h0]), wrap_small (by omega) (by omega)⟩
        rw [sz]
        have h3 : (spell a (b.take k)).data.toList.length = (spell a (b.take k)).size := rfl
        omega
      · have h1 := hsz k
        refine ⟨by omega, ?_⟩
        show mkB _ = mkB _
        rw [textB_mk, if_neg (by intro e; rw [e] at h0; simp at h0), List.take_of_length_le (by omega)]
        rfl
      · show mkB _ = mkB _
        rw [textB_mk, if_pos h0, h0, List.take_nil]
        rfl)
theorem k_lText : SoundC Tryd.prog K_lText.1 K_lText.2 := SoundC.fam (fun x => manyL x.2) fun n => k_l4Text n
theorem k_termText (n : Nat) : SoundC Tryd.prog (K_termText n).1 (K_termText n).2 := by
  induction n with
  | zero => exact sound_of hm CtxOK.nil (fun _ => []) (by kernel_rfl) fun x h => absurd h.2 (Nat.not_lt_zero _)
  | succ n ih => exact sound_of hm ((CtxOK.nil.and k_Join).and (K := K_termText n) ih) (fun x => A_termText x.1 x.2) (by kernel_rfl) fun (x : TP) hl => (by
      have ht : SmT (.mk x.1 x.2) := hl.1
      have hn : manyL x.2 < n + 1 := hl.2
      clear hl
      rw [← vc_termText n x]
      obtain ⟨a, b⟩ := x
      dsimp only at *
      simp [-List.getD_eq_getElem?_getD, -List.mem_cons, -Bool.forall_bool, -Bool.exists_bool, and_assoc, peta, tl_inj, ex_1, ex_2, ex_3, ex_4, ex_5, ex_6, ex_7, ex_8, ex_9, ey_2, ey_3, ey_4, ey_5, ey_6, ey_7, ey_8, ey_9]
      have k1 := (SmT.kids ht).len
      have hc : a.size + b.length + costTs b ≤ 1048576 := by have h : costT (.mk a b) ≤ 1048576 := ht; rw [costT] at h; exact h
      have hll : ∀ k, (textL (b.take k)).length ≤ b.length := fun k => by unfold textL; simp; omega
      refine ⟨fun h0 => ?_, fun h0 => ⟨⟨0, by simp, h0, rfl, rfl, rfl⟩, fun k hk _ => ⟨fun hlt => ?_, fun hge => ?_⟩⟩⟩
      · show a = mkB _
        rw [textB_mk, if_pos h0]; rfl
      · have hs1 : textL (b.take (k + 1)) = textL (b.take k) ++ [textT (b.getD k dT)] := by
          unfold textL; rw [take_getD dT hlt]; simp
        have h1 := hll k
        refine ⟨hlt, (SmT.kids ht).mem (getD_mem dT hlt), by have := manyL_kids (getD_mem dT hlt); omega, by omega, k + 1, hlt, h0, by omega, by rw [hs1]; simp, wrap_small (by omega) (by omega), ?_⟩
        rw [hs1]; exact strs_push
      · rw [List.take_of_length_le (by omega), textL_join]
        have hb : (bl' a).length = a.size := rfl
        have hsum := textBs_len b
        have hl := interL_len [44] rfl (textBs b)
        have hm : (textBs b).length = b.length := by rw [textBs_map]; simp
        have hlb : (textL b).length = b.length := by unfold textL; simp
        have sz : ∀ l : List UInt8, (ByteArray.mk ⟨l⟩).size = l.length := fun l => rfl
        have ha : a.data.toList.length = a.size := rfl
        simp only [mkB_list, mkB_size, sz, List.length_append, List.length_cons, List.length_nil]
        refine ⟨by show (a.size : Int) + 1 ≤ _; omega, by omega, by omega, by omega, by omega, ?_⟩
        show mkB _ = mkB _
        rw [textB_mk, if_neg h0]
        have hq : (textBs b).isEmpty = false := by cases hh : textBs b with
          | nil => rw [hh] at hm; simp at hm; exact absurd (List.length_eq_zero_iff.1 hm.symm) h0
          | cons _ _ => rfl
        unfold spellB
        rw [hq]
        simp [bl'])
theorem k_tText : SoundC Tryd.prog K_tText.1 K_tText.2 := SoundC.fam (fun x => manyL x.2) fun n => k_termText n
theorem k_isNone : SoundC Tryd.prog K_isNone.1 K_isNone.2 := sound_of hm CtxOK.nil (fun _ => []) (by kernel_rfl) fun (x : TP) hl => (by
  rw [← vc_isNone x]
  obtain ⟨a, b⟩ := x
  dsimp only at *
  simp [-List.getD_eq_getElem?_getD, -List.mem_cons, -Bool.forall_bool, -Bool.exists_bool, and_assoc, peta, tl_inj, ex_1, ex_2, ex_3, ex_4, ex_5, ex_6, ex_7, ex_8, ex_9, ey_2, ey_3, ey_4, ey_5, ey_6, ey_7, ey_8, ey_9]
  unfold noneT
  have e : a.toList = [] ↔ a = ByteArray.empty := by
    rw [← tl_inj (b := ByteArray.empty)]
    have : ByteArray.empty.toList = [] := by rw [ByteArray.toList_eq]; rfl
    rw [this]
  refine ⟨fun h => ?_, fun h => ?_⟩
  · rw [decide_eq_true (e.1 h), Bool.true_and, Bool.beq_eq_decide_eq]
    congr 1
    simp only [eq_iff_iff, List.length_eq_zero_iff, Int.natCast_eq_zero]
  · rw [decide_eq_false (fun h2 => h (e.2 h2))]; rfl)
theorem num_step {nums : List Tm} {times : List Int} {k : Nat} (h1 : k < nums.length) (h2 : k < times.length) (he : numOk none nums times = numOk (prevN nums k) (nums.drop k) (times.drop k)) :
    (right (nums.getD k dT) = false → numOk none nums times = false) ∧ (timeOk (times.getD k 0) = false → numOk none nums times = false) ∧ (above (prevN nums k) (nums.getD k dT) = false → numOk none nums times = false) ∧
    (right (nums.getD k dT) = true → timeOk (times.getD k 0) = true → above (prevN nums k) (nums.getD k dT) = true → numOk none nums times = numOk (prevN nums (k + 1)) (nums.drop (k + 1)) (times.drop (k + 1))) := by
  rw [drop_get dT h1, drop_get 0 h2] at he
  simp only [numOk] at he
  refine ⟨fun h => by rw [he, h]; rfl, fun h => by rw [he, h]; simp, fun h => by rw [he, h]; simp, fun a1 a2 a3 => ?_⟩
  rw [he, a1, a2, a3]
  simp [prevN, -List.getD_eq_getElem?_getD]
theorem num_end {p : Option Tm} {nums : List Tm} {times : List Int} {k : Nat} (h1 : nums.length ≤ k) : numOk p (nums.drop k) (times.drop k) = true := by
  rw [drop_end (by omega)]; cases times.drop k <;> rfl
theorem numOk_right : ∀ {nums : List Tm} {times : List Int} {p : Option Tm}, nums.length = times.length → numOk p nums times = true → ∀ t ∈ nums, right t = true
  | [], _, _, _, _, t, h => by cases h
  | x :: nums, [], _, hl, _, _, _ => by simp at hl
  | x :: nums, n :: times, p, hl, h, t, ht => by
    simp only [numOk, Bool.and_eq_true] at h
    rcases List.mem_cons.1 ht with e | e
    · subst e; exact h.1.1.1
    · exact numOk_right (by simpa using hl) h.2 t e
theorem head_iff (kind : Int) (a b : TP) (nums : List Tm) (times : List Int) (bound : Int) (strict : Bool) : sumHead (kind, a, b, nums, times, bound, strict) = true ↔ noneT a = true ∧ noneT b = true ∧ nums.length = times.length ∧ 1 ≤ nums.length ∧ nums.length ≤ 4 ∧ -1000 ≤ bound ∧ bound ≤ 1000 := by
  simp only [sumHead, Bool.and_eq_true, decide_eq_true_eq, and_assoc]
theorem above_prev {nums : List Tm} {k : Nat} (h : 0 < k) : above (prevN nums k) (nums.getD k dT) = Op.bytesLess (textT (nums.getD (k - 1) dT)).toList (textT (nums.getD k dT)).toList := by
  unfold prevN; rw [if_neg (by omega)]; rfl
theorem above_none {nums : List Tm} {k : Nat} (h : k = 0) : above (prevN nums k) (nums.getD k dT) = true := by
  unfold prevN; rw [if_pos h]; rfl
theorem timeOk_iff {n : Int} : timeOk n = true ↔ n ≠ 0 ∧ -50 ≤ n ∧ n ≤ 50 := by
  simp only [timeOk, Bool.and_eq_true, decide_eq_true_eq, and_assoc]
theorem timeOk_no {n : Int} (h : ¬ (n ≠ 0 ∧ -50 ≤ n ∧ n ≤ 50)) : timeOk n = false := by
  cases e : timeOk n with
  | false => rfl
  | true => exact absurd (timeOk_iff.1 e) h

theorem k_Atomok : SoundC Tryd.prog K_Atomok.1 K_Atomok.2 := sound_of hm ((((CtxOK.nil.and k_tText).and k_within).and k_isNone).and k_isTerm) (fun x => A_Atomok x) (by kernel_rfl) fun (x : Atm) hl => (by
  have hs : SmA x := hl
  clear hl
  rw [← vc_Atomok x]
  obtain ⟨kind, ⟨a, b⟩, ⟨c, d⟩, nums, times, bound, strict⟩ := x
  dsimp only at *
  simp [-List.getD_eq_getElem?_getD, -List.mem_cons, -Bool.forall_bool, -Bool.exists_bool, and_assoc, peta, tl_inj, ex_1, ex_2, ex_3, ex_4, ex_5, ex_6, ex_7, ex_8, ex_9, ey_2, ey_3, ey_4, ey_5, ey_6, ey_7, ey_8, ey_9]
  obtain ⟨q1, q2, q3, q4⟩ : SmT (.mk a b) ∧ SmT (.mk c d) ∧ SmTs nums ∧ times.length ≤ 1048576 := SmA.parts hs
  have q5 := q3.len
  have hd := head_iff kind (a, b) (c, d) nums times bound strict
  have e1 : ¬ kind = 2 → atomRight (kind, (a, b), (c, d), nums, times, bound, strict) = (decide (kind = 1) && (right (.mk a b) && right (.mk c d) && decide (nums = []) && decide (times = []) && decide (bound = 0) && !strict)) := fun h => by unfold atomRight; rw [if_neg h]; rfl
  have e2 : kind = 2 → atomRight (kind, (a, b), (c, d), nums, times, bound, strict) = (sumHead (kind, (a, b), (c, d), nums, times, bound, strict) && numOk none nums times) := fun h => by unfold atomRight; rw [if_pos h]; rfl
  generalize hX : ((kind, (a, b), (c, d), nums, times, bound, strict) : Atm) = X at *
  clear hs
  refine ⟨fun g => ?_, fun g => ⟨fun g' => ?_, fun g' => by rw [e1 g', decide_eq_false g]; simp⟩⟩
  · have h : ¬ kind = 2 := by omega
    refine ⟨q1, fun g1 => ⟨q2, fun g2 => ⟨fun g3 => ⟨fun g4 => ⟨fun g5 => ?_, fun g5 => ?_⟩, fun g4 => ?_⟩, fun g3 => ?_⟩, fun g2 => ?_⟩, fun g1 => ?_⟩
    · rw [e1 h, g1, g2, decide_eq_true g, decide_eq_true g3, decide_eq_true g4, decide_eq_true g5]; simp
    · rw [e1 h, decide_eq_false g5]; simp
    · rw [e1 h, decide_eq_false g4]; simp
    · rw [e1 h, decide_eq_false g3]; simp
    · rw [e1 h, g2]; simp
    · rw [e1 h, g1]; simp
  · have eN := e2 g'
    have noH : (sumHead X = true → False) → atomRight X = false := fun h => by
      rw [eN]
      cases e : sumHead X with
      | false => rfl
      | true => exact (h e).elim
    have noN : numOk none nums times = false → atomRight X = false := fun h => by rw [eN, h]; simp
    have win : ∀ {x lo hi : Int}, withinI x lo hi = false ↔ ¬ (lo ≤ x ∧ x ≤ hi) := fun {x lo hi} => by
      simp only [withinI, Bool.and_eq_false_iff, decide_eq_false_iff_not]; omega
    have wiy : ∀ {x lo hi : Int}, withinI x lo hi = true ↔ (lo ≤ x ∧ x ≤ hi) := fun {x lo hi} => by
      simp only [withinI, Bool.and_eq_true, decide_eq_true_eq]
    refine ⟨fun g1 => noH fun h => (by rw [(hd.1 h).1] at g1; cases g1), fun g1 => ⟨fun g2 => noH fun h => (by rw [(hd.1 h).2.1] at g2; cases g2), fun g2 => ⟨fun g3 => noH fun h => (by have := hd.1 h; have := win.1 g3; omega), fun g3 => ⟨fun g4 => noH fun h => (by have := hd.1 h; omega), fun g4 => ⟨fun g5 => noH fun h => (by have := hd.1 h; have := win.1 g5; omega), fun g5 => ?_⟩⟩⟩⟩⟩
    have g3' := wiy.1 g3
    have g5' := wiy.1 g5
    have hh : sumHead X = true := hd.2 ⟨g1, g2, by omega, by omega, by omega, g5'.1, g5'.2⟩
    refine ⟨g', hh, ⟨0, by simp, by simp [prevN], rfl⟩, fun k _ _ hk he => ⟨fun hlt => ?_, fun hge => ?_⟩⟩
    · obtain ⟨f1, f2, f3, f4⟩ := num_step hlt (by omega) he
      refine ⟨hlt, q3.mem (getD_mem dT hlt), fun h => noN (f1 h), fun r1 => ⟨by omega, fun h => noN (f2 (timeOk_no (by have := win.1 h; omega))), fun r2 => ⟨by omega, fun h => noN (f2 (timeOk_no (by omega))), fun r3 => ⟨fun hp => ?_, fun hz => ⟨g', hh, k + 1, hlt, f4 r1 (timeOk_iff.2 ⟨r3, wiy.1 r2⟩) (above_none hz), by omega, wrap_small (by omega) (by omega)⟩⟩⟩⟩⟩
      rw [wrap_small (x := (k : Int) - 1) (by omega) (by omega)]
      have e : ((k : Int) - 1).toNat = k - 1 := by omega
      rw [e]
      have hab := above_prev (nums := nums) hp
      exact ⟨by omega, by omega, by omega, q3.mem (getD_mem dT (by omega)), q3.mem (getD_mem dT hlt), fun h => noN (f3 (by rw [hab]; exact h)), fun h => ⟨g', hh, k + 1, hlt, f4 r1 (timeOk_iff.2 ⟨r3, wiy.1 r2⟩) (by rw [hab]; exact h), by omega, wrap_small (by omega) (by omega)⟩⟩
    · rw [eN, hh, he, num_end hge]; rfl)
theorem right_eq {kind : Int} {a b : TP} {nums : List Tm} {times : List Int} {bound : Int} {strict : Bool} (h : atomRight (kind, a, b, nums, times, bound, strict) = true) :
    (kind = 1 → right (.mk a.1 a.2) = true ∧ right (.mk b.1 b.2) = true) ∧ (¬ kind = 1 → ∀ t ∈ nums, right t = true) := by
  unfold atomRight at h
  split at h
  · rename_i h2
    have h2 : kind = 2 := h2
    refine ⟨fun h1 => by omega, fun _ => ?_⟩
    simp only [sumRight, Bool.and_eq_true] at h
    exact numOk_right ((head_iff kind a b nums times bound strict).1 h.1).2.2.1 h.2
  · simp only [eqRight, Bool.and_eq_true, decide_eq_true_eq] at h
    exact ⟨fun _ => ⟨h.2.1.1.1.1.1, h.2.1.1.1.1.2⟩, fun h1 => absurd h.1 h1⟩
end Cg

/-
  The codes' contracts: the truth of literals in models. No condition.
-/
set_option linter.unusedVariables false
set_option linter.unusedSimpArgs false
set_option maxRecDepth 100000
set_option maxHeartbeats 1000000
namespace Pl
open Go Cg
end Pl
namespace Cg
open Go Go.Proofs Pl
end Cg

/-
  The codes' contracts: drawn models. No condition.
-/
set_option linter.unusedVariables false
set_option linter.unusedSimpArgs false
set_option maxRecDepth 100000
namespace Cg
open Go Go.Proofs Pl
theorem IsX_eR (x : Rw) (j : Nat) (hj : j < 4) : IsX (eR x j) (eR x j) := by
  match j, hj with
  | 0, _ => exact IsX_v _
  | 1, _ => exact ⟨rfl, rfl, fun i hi j hj => EncN.eQ.self _ hj⟩
  | 2, _ => exact IsX_v _
  | 3, _ => exact IsX_v _
@[simp] theorem xrR_self {l : List Rw} : IsO (xrR l) (xrR l) := ⟨rfl, rfl, fun i hi j hj => IsX_eR _ j hj⟩
theorem _root_.Pl.MdB.mono {n k n' k' : Nat} {s : Mdl} (h : MdB n k s) (h1 : n ≤ n') (h2 : k ≤ k') : MdB n' k' s := ⟨Nat.le_trans h.1 h1, fun x hx => ⟨(h.2 x hx).1, Nat.le_trans (h.2 x hx).2 h2⟩⟩
theorem _root_.Pl.MdB.set {n k : Nat} {s : Mdl} (h : MdB n k s) {i : Nat} {x : Rw} (hx : x.1.size ≤ 10 ∧ x.2.1.length ≤ k) : MdB n k (s.set i x) := ⟨by simpa using h.1, mem_set_imp h.2 hx⟩
theorem _root_.Pl.MdB.push {n k : Nat} {s : Mdl} (h : MdB n k s) {x : Rw} (hn : s.length < n) (hx : x.1.size ≤ 10 ∧ x.2.1.length ≤ k) : MdB n k (s ++ [x]) := ⟨by simp; omega, mem_push_imp h.2 hx⟩
end Cg

/-
  Drawn models that stay as they are. No condition.
-/

/-
  What is left to show of each function's code, printed by a program: Mdf. No condition.
-/
set_option maxRecDepth 100000
set_option linter.unusedVariables false
namespace Cg
open Go Go.Proofs
end Cg

/-
  The codes' contracts: drawn models, the rest, and the law that models are compared exactly. No condition.
-/
set_option linter.unusedVariables false
set_option linter.unusedSimpArgs false
set_option maxRecDepth 100000
namespace Cg
open Go Go.Proofs Pl
end Cg

/-
  The codes' contracts: drawn terms, and the law that functions are functional. No condition.
-/
set_option linter.unusedVariables false
set_option linter.unusedSimpArgs false
set_option maxRecDepth 100000
namespace Cg
open Go Go.Proofs Pl
theorem copy_push {ks : List Tm} {k : Nat} (hk : k ≤ ks.length) (hlt : k < ks.length) : IsO (AObj.arr (min k ks.length + 1) 2 (joinC (min k ks.length) (cT (List.take k ks)) (rowsCell [[st (Tree.val (ks.getD k dT)), terms (Tree.kids (ks.getD k dT))]]))) (arT (List.take (k + 1) ks)) := by
  have hlen : (ks.take k).length = k := by simp; omega
  rw [Nat.min_eq_left hk, Pl.take_succ_getD dT hlt]
  have := IsO_join (l := ks.take k) (m := [ks.getD k dT]) (d := dT) EncN.eT (IsR_row EncN.eT (Is_rowK rfl (Is_terms_kidsT.2 rfl)))
  rw [hlen] at this
  exact this
theorem namesT : ∀ y ∈ [(⟨#[]⟩ : ByteArray), ⟨#[65]⟩, ⟨#[97, 98, 99]⟩, ⟨#[102]⟩], y.size ≤ 10 := by decide
theorem LitR.rds {α : Type} {k : Nat} {e : α → Nat → AV} {d : α} {rows : List (List AV)} {l : List α} (h : LitR k e d rows l) : Rds k e d rows.length (rowsCell rows) l := ⟨h.1, fun i hi j hj => h.2 i hi j hj⟩
theorem CB_ge (n : Nat) : 12 ≤ CB n := by cases n <;> (unfold CB; omega)
theorem k_l4Copy : ∀ n, SoundC Tryd.prog (K_l4Copy n).1 (K_l4Copy n).2
  | 0 => ⟨by exact callable_of (by kernel_rfl), fun x hx => absurd hx.2 (Nat.not_lt_zero _)⟩
  | n + 1 => sound_of hm (CtxOK.nil.and (K := K_l4Copy n) (k_l4Copy n)) (fun (x : TP) => A_l4Copy x.1 x.2) (by kernel_rfl) fun (x : TP) hl => (by
    obtain ⟨v, ks⟩ := x
    obtain ⟨h1, h2⟩ : SmT (.mk v ks) ∧ manyL ks < n + 1 := hl
    rw [← vc_l4Copy n v ks]
    simp [-List.getD_eq_getElem?_getD, -List.mem_cons, -Bool.forall_bool, -Bool.exists_bool, and_assoc, peta, tl_inj, ex_1, ex_2, ex_3, ex_4, ex_5, ex_6, ex_7, ex_8, ex_9, ey_2, ey_3, ey_4, ey_5, ey_6, ey_7, ey_8, ey_9]
    refine ⟨⟨0, by omega, rfl, rfl, .inl rfl⟩, fun k hk => ⟨fun hlt => ?_, fun hge => List.take_of_length_le hge⟩⟩
    have ht := getD_mem dT hlt
    have c1 := costT_mem ht
    have c2 := costT_eq (.mk v ks)
    simp only [Tree.val_mk, Tree.kids_mk] at c2
    have m1 := many_mem ht
    have m2 := (ks.getD k dT).many_eq
    exact ⟨hlt, by omega, by omega, by omega, k + 1, hlt, by omega, wrap_succ hlt (by omega), by omega, copy_push hk hlt⟩)
theorem k_lCopy : SoundC Tryd.prog K_lCopy.1 K_lCopy.2 := SoundC.famI (fun (x : TP) => manyL x.2) k_l4Copy
theorem k_l4CopyO : SoundC Tryd.prog K_l4CopyO.1 K_l4CopyO.2 := sound_of hm (CtxOK.nil.and k_lCopy) (fun (x : TP) => A_l4CopyO x.1 x.2) (by kernel_rfl) fun (x : TP) hl => (by
  obtain ⟨v, ks⟩ := x
  replace hl : SmT (.mk v ks) := hl
  rw [← vc_l4CopyO v ks]
  simp [-List.getD_eq_getElem?_getD, -List.mem_cons, -Bool.forall_bool, -Bool.exists_bool, and_assoc, peta, tl_inj, ex_1, ex_2, ex_3, ex_4, ex_5, ex_6, ex_7, ex_8, ex_9, ey_2, ey_3, ey_4, ey_5, ey_6, ey_7, ey_8, ey_9]
  refine ⟨⟨0, by omega, rfl, rfl, .inl rfl⟩, fun k hk => ⟨fun hlt => ?_, fun hge => List.take_of_length_le hge⟩⟩
  have ht := getD_mem dT hlt
  have c1 := costT_mem ht
  have c2 := costT_eq (.mk v ks)
  simp only [Tree.val_mk, Tree.kids_mk] at c2
  exact ⟨hlt, by omega, by omega, k + 1, hlt, by omega, wrap_succ hlt (by omega), by omega, copy_push hk hlt⟩)
theorem k_l4Any : ∀ n, SoundC Tryd.prog (K_l4Any n).1 (K_l4Any n).2
  | 0 => ⟨by exact callable_of (by kernel_rfl), fun x hx => absurd hx.2 (Nat.not_lt_zero _)⟩
  | n + 1 => sound_of hm ((CtxOK.nil.and (K := K_l4Any n) (k_l4Any n)).and k_pick) (fun ((b, p, s, u, d) : AX) => A_l4Any b p s u d) (by kernel_rfl) fun ((b, p, s, u, d) : AX) hl => (by
    obtain ⟨⟨h1, h1', h2, h3⟩, h4⟩ : (Rd 137438953472 b p ∧ p + CB d.toNat ≤ 137438953472 ∧ SgB 5 2 s ∧ d ≤ 4) ∧ d.toNat < n + 1 := hl
    rw [← vc_l4Any n b p s u d]
    simp [-List.getD_eq_getElem?_getD, -List.mem_cons, -Bool.forall_bool, -Bool.exists_bool, and_assoc, peta, tl_inj, ex_1, ex_2, ex_3, ex_4, ex_5, ex_6, ex_7, ex_8, ex_9, ey_2, ey_3, ey_4, ey_5, ey_6, ey_7, ey_8, ey_9]
    have g3 := h1.2.2.1
    have g4 := h1.2.2.2
    obtain ⟨s1, s2⟩ : s.length ≤ 5 ∧ ∀ x ∈ s, x.1.size ≤ 10 ∧ x.2.1.length ≤ 2 := id h2
    have hC := CB_ge d.toNat
    refine ⟨⟨0, by omega, [], Nat.le_refl _, fun x hx => (by cases hx), rfl, rfl, rfl, rfl⟩, fun i ws hi hw hwd => ⟨fun hlt => ?_, fun hge => ⟨fun hnil => ?_, fun hne => ?_⟩⟩⟩
    · have h5 := s2 _ (getD_mem dY hlt)
      have keep : ∃ a_8, a_8 ≤ s.length ∧ ∃ x : List Sym, x.length ≤ a_8 ∧ WdB d x ∧ s.length - a_8 < s.length - i ∧ ws.length = x.length ∧ IntKind.i64.wrap ((i : Int) + 1) = (a_8 : Int) ∧ (x = [] ∨ ws = x) :=
        ⟨i + 1, by omega, ws, by omega, hwd, by omega, rfl, wrap_succ hlt (by omega), .inr rfl⟩
      have push : (d ≤ 1 → (s.getD i dY).2.1 = []) → (ws.length + 1) * 48 ≤ 70368744177664 ∧ ∃ a_8, a_8 ≤ s.length ∧ ∃ x : List Sym, x.length ≤ a_8 ∧ WdB d x ∧ s.length - a_8 < s.length - i ∧ ws.length + 1 = x.length ∧ IntKind.i64.wrap ((i : Int) + 1) = (a_8 : Int) ∧
          IsO (AObj.arr (ws.length + 1) 3 (joinC ws.length (cY ws) (rowsCell [[st (s.getD i dY).fst, ints (s.getD i dY).snd.fst, i64 (s.getD i dY).snd.snd]]))) (arY x) := fun h6 =>
        ⟨by omega, i + 1, by omega, ws ++ [s.getD i dY], by simp; omega, mem_push_imp hwd ⟨h5.1, h5.2, h6⟩, by omega, by simp, wrap_succ hlt (by omega), IsO_join EncN.eY (IsR_row EncN.eY (Is_rowY (Is_ints.2 rfl)))⟩
      exact ⟨hlt, fun he => ⟨fun hd => ⟨hlt, push fun h => absurd h (by omega)⟩, fun hd => ⟨hlt, fun ha => ⟨hlt, push fun _ => ha⟩, fun _ => keep⟩⟩, fun _ => keep⟩
    · refine ⟨⟨#[113]⟩, [], ?_, by omega, rfl, rfl⟩
      show costT (.mk ⟨#[113]⟩ []) ≤ _
      rw [costT_eq]
      simp only [Tree.val_mk, Tree.kids_mk, costTs, List.length_nil]
      have : (⟨#[113]⟩ : ByteArray).size = 1 := rfl
      omega
    · refine ⟨h1.to (by omega) (by omega), fun y hy _ => ?_⟩
      have hw0 : 0 < ws.length := List.length_pos_iff.2 hne
      obtain ⟨y1, y2⟩ := hy (by omega)
      have hyl : y.toNat < ws.length := by omega
      have hwy := hwd _ (getD_mem dY hyl)
      refine ⟨y1, y2, hyl, ⟨(ws.getD y.toNat dY).1, (ws.getD y.toNat dY).2.1, (ws.getD y.toNat dY).2.2, fun x hx => by rw [List.mem_singleton.1 hx]; exact hwy, 0, Nat.zero_le _, [], rfl, Nat.zero_le _, by omega, by simp, rfl, rfl, rfl, rfl, rfl, rfl⟩, fun nm args so j kids q hw1 hj hkl hc q1 q2 => ⟨fun hlt => ?_, fun hge => ?_⟩⟩
      · obtain ⟨a1, a2, a3⟩ := hw1 _ List.mem_cons_self
        dsimp only at a1 a2 a3
        have hd : 2 ≤ d := Classical.byContradiction fun h => by
          have := a3 (by omega)
          rw [this] at hlt; exact absurd hlt (Nat.not_lt_zero _)
        have hdn : d.toNat = (d.toNat - 1) + 1 := by omega
        have hCe : CB d.toNat = 12 + 2 * CB (d.toNat - 1) := by rw [hdn]; rfl
        have hw2 : IntKind.i64.wrap (d - 1) = d - 1 := wrap_small (by omega) (by omega)
        have hdt : (d - 1).toNat = d.toNat - 1 := by omega
        rw [hw2, hdt]
        generalize hCC : CB (d.toNat - 1) = C at *
        have hj2 : (j : Int) * C ≤ C := by
          have : j = 0 ∨ j = 1 := by omega
          rcases this with rfl | rfl <;> simp <;> omega
        have hj3 : ((j + 1 : Nat) : Int) * C = j * C + C := by push_cast; rw [Int.add_mul, Int.one_mul]
        have hcn : (j + 1) * C = j * C + C := Nat.succ_mul j C
        refine ⟨hlt, h1.to (by omega) (by omega), by omega, h2, by omega, by omega, fun nm2 k2 q' ht q3 q4 => ⟨by omega, nm, args, so, hw1, j + 1, hlt, kids ++ [.mk nm2 k2], by simp; omega, ?_, by omega, by rw [hj3]; omega, by omega, wrap_succ hlt (by omega), rfl, rfl, rfl, rfl, by simp, IsO_join EncN.eT (IsR_row EncN.eT (Is_rowT (Is_terms.2 rfl)))⟩⟩
        have ht' : costT (.mk nm2 k2) ≤ C := ht
        rw [costTs_snoc, hcn]
        omega
      · obtain ⟨a1, a2, a3⟩ := hw1 _ List.mem_cons_self
        dsimp only at a1 a2 a3
        have c2 := costT_eq (.mk nm kids)
        simp only [Tree.val_mk, Tree.kids_mk] at c2
        by_cases hd : d ≤ 1
        · have h0 : j = 0 := by have := a3 hd; rw [this] at hj; simpa using hj
          subst h0
          refine ⟨nm, kids, ?_, q1, ?_, rfl, rfl, .inr rfl⟩
          · show costT (.mk nm kids) ≤ _
            simp at hc
            omega
          · simp at q2
            omega
        · have hdn : d.toNat = (d.toNat - 1) + 1 := by omega
          have hCe : CB d.toNat = 12 + 2 * CB (d.toNat - 1) := by rw [hdn]; rfl
          have hj2 : j * CB (d.toNat - 1) ≤ 2 * CB (d.toNat - 1) := Nat.mul_le_mul_right _ (by omega)
          have hj3 : (j : Int) * (CB (d.toNat - 1) : Int) = ((j * CB (d.toNat - 1) : Nat) : Int) := by push_cast; rfl
          rw [hj3] at q2
          generalize hm : j * CB (d.toNat - 1) = M at *
          refine ⟨nm, kids, ?_, q1, ?_, rfl, rfl, .inr rfl⟩
          · show costT (.mk nm kids) ≤ _
            omega
          · omega)
theorem k_lAny : SoundC Tryd.prog K_lAny.1 K_lAny.2 := SoundC.famE (fun (x : AX) => x.2.2.2.2.toNat) k_l4Any
set_option maxHeartbeats 8000000 in
theorem g_l4Some (b : List Int) (p : Int) (s : Pl.Sig) (h1 : Rd 68719476736 b p) (h2 : SgB 5 2 s) : GoalW Tryd.prog [K_pick, K_num, K_of, K_lAny, K_l4CopyO] ([]) K_l4Some.1 K_l4Some.2 (b, p, s) := GoalW.of (vc_l4Some b p s) (by
  simp (maxSteps := 2000000) [-List.getD_eq_getElem?_getD, -List.mem_cons, -Bool.forall_bool, -Bool.exists_bool, and_assoc, peta, tl_inj, ex_1, ex_2, ex_3, ex_4, ex_5, ex_6, ex_7, ex_8, ex_9, ey_2, ey_3, ey_4, ey_5, ey_6, ey_7, ey_8, ey_9]
  have g3 := h1.2.2.1
  have g4 := h1.2.2.2
  refine ⟨h1.to (by omega) (by omega), fun y _ _ => ⟨h1.to (by omega) (by omega), fun d hd => ?_⟩⟩
  have hC : CB d.toNat ≤ 372 ∧ d ≤ 4 := by
    simp at hd
    rcases hd with rfl | rfl | rfl | rfl <;> exact ⟨by decide, by decide⟩
  refine ⟨h1.to (by omega) (by omega), by omega, h2, hC.2, fun a ks q ht q1 q2 => ⟨h1.to (by omega) (by omega), fun z _ _ => ?_⟩⟩
  have ht' : costT (.mk a ks) ≤ CB d.toNat := ht
  have c2 := costT_eq (.mk a ks)
  simp only [Tree.val_mk, Tree.kids_mk] at c2
  have c3 : ∀ (v : ByteArray) (l : List Tm), costT (.mk v l) = v.size + l.length + costTs l := fun v l => by
    have := costT_eq (.mk v l)
    simpa only [Tree.val_mk, Tree.kids_mk] using this
  have h0j : LitR 2 eT dT [[st a, terms ks]] [Tree.mk a ks] := LitR.nil.cons (Is_rowT (Is_terms.2 rfl))
  have h1j := (Rds.cel (d := dT) EncN.eT ks).join h0j.rds
  have h2j := (Rds.cel (d := dT) EncN.eT ks).join (h0j.cons (r := [st a, terms ks]) (v := Tree.mk a ks) (Is_rowT (Is_terms.2 rfl))).rds
  refine ⟨fun _ => ⟨h1.to (by omega) (by omega), fun nm hnm => ⟨?_, by omega, by omega⟩⟩, fun _ => ⟨fun _ => ?_, fun _ => ⟨fun _ => ?_, fun _ => ⟨?_, by omega, by omega⟩⟩⟩⟩
  · have := namesT nm hnm
    show costT (.mk nm ks) ≤ 1500
    rw [c3]; omega
  · refine ⟨a, ks, by omega, rfl, rfl, .inr rfl, by omega, by omega, a, ks ++ [Tree.mk a ks], ?_, by omega, by omega, rfl, h1j.is⟩
    show costT (.mk a (ks ++ [.mk a ks])) ≤ 1500
    rw [c3, costTs_snoc, List.length_append, List.length_singleton]; omega
  · refine ⟨a, ks, by omega, rfl, rfl, .inr rfl, a, ks, by omega, rfl, rfl, .inr rfl, by omega, by omega, a, ks ++ [Tree.mk a ks, Tree.mk a ks], ?_, by omega, by omega, rfl, h2j.is⟩
    show costT (.mk a (ks ++ [.mk a ks, .mk a ks])) ≤ 1500
    have e : ks ++ [.mk a ks, .mk a ks] = (ks ++ [.mk a ks]) ++ [.mk a ks] := by simp
    rw [e, c3, costTs_snoc, costTs_snoc, List.length_append, List.length_append, List.length_singleton]; omega
  · show costT (.mk a ks) ≤ 1500
    omega)
theorem k_l4Some : SoundC Tryd.prog K_l4Some.1 K_l4Some.2 := sound_ofW hm (((((CtxOK.nil.and k_l4CopyO).and k_lAny).and k_of).and k_num).and k_pick) (fun _ => []) (by kernel_rfl) fun ((b, p, s) : List Int × Int × Pl.Sig) hb => g_l4Some b p s hb.1 hb.2
theorem Is_rowsI {α : Type} {k : Nat} {e : α → Nat → AV} {d : α} (hk : 0 < k) {v : α} {m : List α} {r : List AV} (h : ∀ v', (∀ j, j < k → Is (r.getD j .any) (e v' j)) ↔ v = v') :
    Is (.lit 1 k (rowsCell [r])) (.sl m.length k fun i j => e (m.getD i d) j) ↔ [v] = m := by
  constructor
  · intro h'
    rw [Is] at h'
    obtain ⟨h1, h2⟩ := h'
    match m, h1 with
    | [x], _ =>
      congr 1
      refine (h x).1 fun j hj => ?_
      rcases h2 with h2 | ⟨_, h2⟩
      · omega
      · exact h2 0 (by omega) j hj
  · rintro rfl
    refine Is_lit_of rfl fun i hi j hj => ?_
    have : i = 0 := by simpa using hi
    subst this
    exact (h v).2 rfl j hj
@[simp] theorem terms_lit1 {a : ByteArray} {ks m : List Tm} : Is (.lit 1 2 (rowsCell [[st a, terms ks]])) (terms m) ↔ [Tree.mk a ks] = m := Is_rowsI (e := eT) (d := dT) (by decide) fun v' => by
  constructor
  · intro h
    have h0 : Is (st a) (st v'.val) := h 0 (by decide)
    have h1 : Is (terms ks) (kidsT v') := h 1 (by decide)
    exact Tree.ext (Is_st.1 h0) (Is_terms_kidsT.1 h1)
  · rintro rfl j hj
    exact Is_rowT (Is_terms.2 rfl) j hj
@[simp] theorem terms_lit0 {a : ByteArray} {q : Nat} {c : Nat → Nat → AV} {m : List Tm} : Is (.lit 1 2 (rowsCell [[st a, .lit 0 q c]])) (terms m) ↔ [Tree.mk a []] = m := Is_rowsI (e := eT) (d := dT) (by decide) fun v' => by
  constructor
  · intro h
    have h0 : Is (st a) (st v'.val) := h 0 (by decide)
    have h1 : Is (.lit 0 q c) (kidsT v') := h 1 (by decide)
    unfold kidsT at h1
    rw [Is] at h1
    exact Tree.ext (Is_st.1 h0) (List.eq_nil_of_length_eq_zero h1.1.symm).symm
  · rintro rfl j hj
    exact Is_rowT (terms_nil.2 rfl) j hj
end Cg

/-
  The codes' contracts: drawn atoms. No condition.
-/
set_option linter.unusedVariables false
set_option linter.unusedSimpArgs false
set_option maxRecDepth 100000
namespace Cg
open Go Go.Proofs Pl
theorem _root_.Pl.PutB.nil {ns : List Tm} {t : Tm} {n : Nat} : PutB ns t n [] [] := ⟨Nat.zero_le _, rfl, fun u hu => by cases hu⟩
theorem _root_.Pl.PutB.push {ns : List Tm} {t u : Tm} {n n' : Nat} {ms : List Tm} {ts : List Int} {c : Int} (h : PutB ns t n ms ts) (hu : u ∈ ns ∨ u = t) (hn : n + 1 ≤ n') : PutB ns t n' (ms ++ [u]) (ts ++ [c]) :=
  ⟨by have := h.1; simp; omega, by have := h.2.1; simp; omega, mem_push_imp h.2.2 hu⟩
theorem _root_.Pl.PutB.mono {ns : List Tm} {t : Tm} {n n' : Nat} {ms : List Tm} {ts : List Int} (h : PutB ns t n ms ts) (hn : n ≤ n') : PutB ns t n' ms ts := ⟨Nat.le_trans h.1 hn, h.2⟩
theorem _root_.Pl.AtB.mono {n n' : Nat} {x : Atm} (h : AtB n x) (hn : n ≤ n') : AtB n' x := ⟨h.1, h.2.1, Nat.le_trans h.2.2.1 hn, Nat.le_trans h.2.2.2.1 hn, h.2.2.2.2⟩
theorem costTs_le {c : Nat} : ∀ {l : List Tm}, (∀ t ∈ l, costT t ≤ c) → costTs l ≤ l.length * c
  | [], _ => Nat.zero_le _
  | t :: ts, h => by
    have h1 := h t List.mem_cons_self
    have h2 := costTs_le (l := ts) fun u hu => h u (List.mem_cons_of_mem _ hu)
    rw [costTs, List.length_cons, Nat.succ_mul]; omega
theorem at_sm {n : Nat} {x : Atm} (h : AtB n x) (hn : n ≤ 100 := by decide) : costA x ≤ 1048576 := by
  obtain ⟨h1, h2, h3, h4, h5⟩ := h
  have h6 := costTs_le h5
  have h7 : x.2.2.2.1.length * 400 ≤ 100 * 400 := Nat.mul_le_mul_right _ (by omega)
  unfold costA; omega
theorem Rds.tm (a : ByteArray) (ks : List Tm) : Rds 2 eT dT 1 (rowsCell [[st a, terms ks]]) [.mk a ks] := Rds.row (terms_row a ks)
theorem Rds.tk (t : Tm) : Rds 2 eT dT 1 (rowsCell [[st (Tree.val t), kidsT t]]) [t] := Rds.row (IsR_row EncN.eT (Is_rowK rfl (Is_kidsT2.2 rfl)))
theorem Rds.int (a : Int) : Rds 1 eI 0 1 (rowsCell [[i64 a]]) [a] := Rds.row (ints_row a)
set_option maxHeartbeats 8000000 in
theorem g_l6Put (a : Atm) (v : ByteArray) (ks : List Tm) (n : Int) (h1 : SmA a) (h2 : SmT (.mk v ks)) (h3 : a.2.2.2.1.length ≤ 100) (h4 : a.2.2.2.2.1.length = a.2.2.2.1.length) : GoalW Tryd.prog [K_lText] (A_l6Put a v ks n) K_l6Put.1 K_l6Put.2 (a, (v, ks), n) := GoalW.of (vc_l6Put a v ks n) (by
  simp (maxSteps := 2000000) [-List.getD_eq_getElem?_getD, -List.mem_cons, -Bool.forall_bool, -Bool.exists_bool, and_assoc, peta, tl_inj, ex_1, ex_2, ex_3, ex_4, ex_5, ex_6, ex_7, ex_8, ex_9, ey_2, ey_3, ey_4, ey_5, ey_6, ey_7, ey_8, ey_9]
  refine ⟨⟨0, Nat.zero_le _, false, [], [], PutB.nil, rfl, rfl, rfl, rfl, rfl⟩, fun i d ms ts hi hp => ⟨fun hlt => ?_, fun hge => ?_⟩⟩
  · have ht := getD_mem dT hlt
    have c1 : costT (a.2.2.2.1.getD i dT) ≤ 1048576 := by
      have := costT_mem ht
      have h1' : costA a ≤ 1048576 := h1
      unfold costA at h1'; omega
    have p1 := hp.1
    have p2 := hp.2.1
    have hd1 : (if d = true then 1 else 0) ≤ 1 := by split <;> omega
    have w := wrap_succ hlt (by omega)
    have jt := (Rds.cel (d := dT) EncN.eT ms).join (Rds.tk (a.2.2.2.1.getD i dT))
    have ji := (Rds.cel (d := (0 : Int)) EncN.eI ts).join (Rds.int (a.2.2.2.2.1.getD i 0))
    refine ⟨hlt, c1, fun hd => ⟨h2, fun _ => ⟨by omega, by omega, h2, fun _ => ⟨hlt, by omega, by omega, by omega, i + 1, hlt, true, ms ++ [.mk v ks] ++ [a.2.2.2.1.getD i dT], ts ++ [n] ++ [a.2.2.2.2.1.getD i 0], ?_, by omega, rfl, w, by simp, by simp, ?_, ?_⟩, fun _ => ⟨i + 1, hlt, true, ms ++ [.mk v ks], ts ++ [n], ?_, by omega, rfl, w, by simp, by simp, ?_, ?_⟩⟩,
      fun _ => ⟨h2, fun _ => ⟨hlt, by omega, by omega, by omega, i + 1, hlt, d, ms ++ [a.2.2.2.1.getD i dT], ts ++ [a.2.2.2.2.1.getD i 0], ?_, by omega, rfl, w, by simp, by simp, jt.iso, ji.iso⟩, fun _ => ⟨i + 1, hlt, d, ms, ts, hp.mono (by omega), by omega, rfl, w, rfl, rfl, .inr rfl, .inr rfl⟩⟩⟩,
      fun hd => ⟨h2, fun _ => ⟨hlt, by omega, by omega, by omega, i + 1, hlt, d, ms ++ [a.2.2.2.1.getD i dT], ts ++ [a.2.2.2.2.1.getD i 0], ?_, by omega, rfl, w, by simp, by simp, jt.iso, ji.iso⟩, fun _ => ⟨i + 1, hlt, d, ms, ts, hp.mono (by omega), by omega, rfl, w, rfl, rfl, .inr rfl, .inr rfl⟩⟩⟩
    · subst hd; exact (hp.push (n' := i + 1) (.inr rfl) (by simp)).push (.inl ht) (by simp)
    · exact (((Rds.cel (d := dT) EncN.eT ms).join (Rds.tm v ks)).join (Rds.tk _)).iso
    · exact (((Rds.cel (d := (0 : Int)) EncN.eI ts).join (Rds.int n)).join (Rds.int _)).iso
    · subst hd; exact hp.push (.inr rfl) (by simp)
    · exact ((Rds.cel (d := dT) EncN.eT ms).join (Rds.tm v ks)).iso
    · exact ((Rds.cel (d := (0 : Int)) EncN.eI ts).join (Rds.int n)).iso
    · exact hp.push (.inl ht) (by omega)
    · exact hp.push (.inl ht) (by omega)
  · have p1 := hp.1
    have p2 := hp.2.1
    have hd1 : (if d = true then 1 else 0) ≤ 1 := by split <;> omega
    refine ⟨fun hd => ⟨by omega, by omega, ms ++ [Tree.mk v ks], ts ++ [n], ?_, rfl, by simp, by simp, ((Rds.cel (d := dT) EncN.eT ms).join (Rds.tm v ks)).iso, ((Rds.cel (d := (0 : Int)) EncN.eI ts).join (Rds.int n)).iso⟩, fun hd => ⟨ms, ts, hp.mono (by omega), rfl, rfl, rfl, .inr rfl, .inr rfl⟩⟩
    subst hd
    exact hp.push (.inr rfl) (by simp; omega))
theorem k_l6Put : SoundC Tryd.prog K_l6Put.1 K_l6Put.2 := sound_ofW hm (CtxOK.nil.and k_lText) (fun ((a, (v, ks), n) : Atm × TP × Int) => A_l6Put a v ks n) (by kernel_rfl) fun ((a, (v, ks), n) : Atm × TP × Int) hb => g_l6Put a v ks n hb.1 hb.2.1 hb.2.2.1 hb.2.2.2
theorem sl0 {c : Nat → Nat → AV} {m : List Tm} : Is (.sl 0 2 c) (terms m) ↔ m = [] := by
  unfold terms
  rw [Is]
  constructor
  · intro h; exact List.eq_nil_of_length_eq_zero h.1.symm
  · rintro rfl; exact ⟨rfl, .inl rfl⟩
theorem noc : costT (.mk ByteArray.empty []) ≤ 1500 := by
  rw [costT_eq]
  decide
theorem CB_le2 {d : Nat} (h : d ≤ 2) : CB d ≤ 84 := by
  have : d = 0 ∨ d = 1 ∨ d = 2 := by omega
  rcases this with rfl | rfl | rfl <;> decide
set_option maxHeartbeats 8000000 in
theorem g_l6Any (b : List Int) (p : Int) (s : Pl.Sig) (h1 : Rd 68719476736 b p) (h2 : SgB 5 2 s) : GoalW Tryd.prog [K_pick, K_num, K_lAny, K_l6Put] (A_l6Any b p s) K_l6Any.1 K_l6Any.2 (b, p, s) := GoalW.of (vc_l6Any b p s) (by
  simp (maxSteps := 2000000) [-List.getD_eq_getElem?_getD, -List.mem_cons, -Bool.forall_bool, -Bool.exists_bool, and_assoc, peta, tl_inj, ex_1, ex_2, ex_3, ex_4, ex_5, ex_6, ex_7, ex_8, ex_9, ey_2, ey_3, ey_4, ey_5, ey_6, ey_7, ey_8, ey_9]
  have g3 := h1.2.2.1
  have g4 := h1.2.2.2
  refine ⟨h1.to (by omega) (by omega), fun y _ _ => ⟨fun _ => ⟨h1.to (by omega) (by omega), fun so _ _ => ⟨h1.to (by omega) (by omega), fun d hd => ?_⟩⟩, fun _ => ⟨h1.to (by omega) (by omega), fun bd _ => ⟨h1.to (by omega) (by omega), fun sc _ _ => ⟨h1.to (by omega) (by omega), fun k hk => ?_⟩⟩⟩⟩⟩
  · have hC : CB d.toNat ≤ 84 ∧ d ≤ 4 := by
      simp at hd
      exact ⟨CB_le2 (by omega), by omega⟩
    refine ⟨h1.to (by omega) (by omega), by omega, h2, hC.2, fun v ks q ht q1 q2 => ⟨h1.to (by omega) (by omega), fun d' hd' => ?_⟩⟩
    have hC' : CB d'.toNat ≤ 84 ∧ d' ≤ 4 := by
      simp at hd'
      exact ⟨CB_le2 (by omega), by omega⟩
    refine ⟨h1.to (by omega) (by omega), by omega, h2, hC'.2, fun v' ks' q' ht' q3 q4 => ?_⟩
    have t1 : costT (.mk v ks) ≤ CB d.toNat := ht
    have t2 : costT (.mk v' ks') ≤ CB d'.toNat := ht'
    exact ⟨1, v, ks, v', ks', [], [], 0, false, ⟨by show costT (.mk v ks) ≤ 1500; omega, by show costT (.mk v' ks') ≤ 1500; omega, Nat.zero_le _, Nat.zero_le _, fun t ht => by cases ht⟩, q', by omega, by omega, rfl, rfl, rfl, rfl, rfl, rfl, rfl, rfl, rfl, rfl, rfl, rfl⟩
  · simp at hk
    refine ⟨⟨k, by omega, by omega, [], by simp; omega, [], rfl, fun t ht => (by cases ht), by omega, by omega, rfl, rfl, rfl, rfl, rfl, rfl⟩, fun k ms ts bd sc q k0 k3 hm ht hc q1 q2 => ⟨fun hk => ⟨h1.to (by omega) (by omega), fun d hd => ?_⟩, fun hk => ?_⟩⟩
    · have hC : CB d.toNat ≤ 84 ∧ d ≤ 4 := by
        simp at hd
        exact ⟨CB_le2 (by omega), by omega⟩
      refine ⟨h1.to (by omega) (by omega), by omega, h2, hC.2, fun v ks q' hv q3 q4 => ⟨h1.to (by omega) (by omega), fun c _ => ?_⟩⟩
      have hv' : costT (.mk v ks) ≤ CB d.toNat := hv
      have hs : costA (2, (ByteArray.empty, []), (ByteArray.empty, []), ms, ts, bd, sc) ≤ 1048576 := at_sm (n := 3) ⟨noc, noc, by dsimp only; omega, by dsimp only; omega, hc⟩
      refine ⟨2, ByteArray.empty, [], ByteArray.empty, [], ms, ts, bd, sc, hs, v, ks, by omega, by omega, ht, rfl, rfl, sl0.2 rfl, rfl, sl0.2 rfl, rfl, rfl, rfl, rfl, rfl, rfl, fun ms' ts' hp => ⟨k - 1, by omega, by omega, ms', by have := hp.1; omega, ts', hp.2.1, fun t ht => ?_, by omega, by omega, by omega, wrap_small (by omega) (by omega), rfl, rfl, sl0.2 rfl, rfl, sl0.2 rfl, rfl, rfl, .inr rfl, .inr rfl⟩⟩
      rcases hp.2.2 t ht with e | e
      · exact hc t e
      · rw [e]; omega
    · exact ⟨2, ByteArray.empty, [], ByteArray.empty, [], ms, ts, bd, sc, ⟨noc, noc, by dsimp only; omega, by dsimp only; omega, hc⟩, q, by omega, by omega, rfl, rfl, sl0.2 rfl, rfl, sl0.2 rfl, rfl, rfl, rfl, rfl, rfl, .inr rfl, .inr rfl⟩)
theorem k_l6Any : SoundC Tryd.prog K_l6Any.1 K_l6Any.2 := sound_ofW hm ((((CtxOK.nil.and k_l6Put).and k_lAny).and k_num).and k_pick) (fun ((b, p, s) : BX) => A_l6Any b p s) (by kernel_rfl) fun ((b, p, s) : BX) hb => g_l6Any b p s hb.1 hb.2
set_option maxHeartbeats 8000000 in
theorem g_l6Some (b : List Int) (p : Int) (s : Pl.Sig) (h1 : Rd 34359738368 b p) (h2 : SgB 5 2 s) : GoalW Tryd.prog [K_l6Any, K_pick, K_num, K_l4Some, K_lAny] ([]) K_l6Some.1 K_l6Some.2 (b, p, s) := GoalW.of (vc_l6Some b p s) (by
  simp (maxSteps := 2000000) [-List.getD_eq_getElem?_getD, -List.mem_cons, -Bool.forall_bool, -Bool.exists_bool, and_assoc, peta, tl_inj, ex_1, ex_2, ex_3, ex_4, ex_5, ex_6, ex_7, ex_8, ex_9, ey_2, ey_3, ey_4, ey_5, ey_6, ey_7, ey_8, ey_9]
  have g3 := h1.2.2.1
  have g4 := h1.2.2.2
  refine ⟨h1.to (by omega) (by omega), h2, fun kd av ak bv bk ms ts bd sc q ha q1 q2 => ⟨h1.to (by omega) (by omega), fun y _ _ => ⟨fun _ => ⟨h1.to (by omega) (by omega), fun z hz => ?_⟩, fun _ => ⟨fun _ => ⟨h1.to (by omega) (by omega), fun z hz => ?_⟩, fun _ => ⟨fun _ => ⟨h1.to (by omega) (by omega), h2, fun v ks q' hv q3 q4 => ?_⟩, fun _ => ⟨fun _ => ⟨fun hl => ⟨h1.to (by omega) (by omega), fun z hz => ⟨hl, ?_⟩⟩, fun hn => ?_⟩, fun _ => ⟨fun _ => ⟨h1.to (by omega) (by omega), by have := @CB_le2 1 (by decide); omega, h2, fun v ks q' hv q3 q4 => ⟨?_, ?_⟩⟩, fun _ => ?_⟩⟩⟩⟩⟩⟩⟩
  all_goals obtain ⟨t1, t2, t3, t4, t5⟩ := id ha
  · exact ⟨z, av, ak, bv, bk, ms, ts, bd, sc, ⟨t1, t2, Nat.le_succ_of_le t3, Nat.le_succ_of_le t4, t5⟩, _, by omega, by omega, rfl, rfl, rfl, rfl, rfl, rfl, rfl, rfl, rfl, rfl⟩
  · exact ⟨kd, av, ak, bv, bk, ms, ts, z, sc, ⟨t1, t2, Nat.le_succ_of_le t3, Nat.le_succ_of_le t4, t5⟩, _, by omega, by omega, rfl, rfl, rfl, rfl, rfl, rfl, rfl, rfl, rfl, rfl⟩
  · exact ⟨kd, v, ks, bv, bk, ms, ts, bd, sc, ⟨hv, t2, Nat.le_succ_of_le t3, Nat.le_succ_of_le t4, t5⟩, _, by omega, by omega, rfl, rfl, rfl, rfl, rfl, rfl, rfl, rfl, rfl, rfl⟩
  · exact ⟨kd, av, ak, bv, bk, ms, ts.set 0 z, bd, sc, ⟨t1, t2, Nat.le_succ_of_le t3, by dsimp only; rw [List.length_set]; exact Nat.le_succ_of_le t4, t5⟩, _, by omega, by omega, rfl, rfl, rfl, rfl, rfl, rfl, Is_sl_of (by simp) (IsR_storeG (IsR_cel EncN.eI) rfl fun j hj => by
      match j, hj with
      | 0, _ => exact Is_i64.2 rfl), rfl, rfl, rfl⟩
  · exact ⟨kd, av, ak, bv, bk, ms, ts, bd, sc, ha.mono (by decide), _, by omega, by omega, rfl, rfl, rfl, rfl, rfl, rfl, rfl, rfl, rfl, rfl⟩
  · dsimp only at t3; omega
  · have hC := @CB_le2 1 (by decide)
    have hv' : costT (.mk v ks) ≤ CB 1 := hv
    exact ⟨kd, av, ak, bv, bk, ms ++ [Tree.mk v ks], ts, bd, sc, ⟨t1, t2, by dsimp only at t3 ⊢; simp; omega, Nat.le_succ_of_le t4, mem_push_imp t5 (by omega)⟩, _, by omega, by omega, rfl, rfl, rfl, rfl, rfl, ((Rds.cel (d := dT) EncN.eT ms).join (Rds.tm v ks)).is, rfl, rfl, rfl, rfl⟩
  · exact ⟨kd, av, ak, bv, bk, ms, ts, bd, sc, ha.mono (by decide), _, by omega, by omega, rfl, rfl, rfl, rfl, rfl, rfl, rfl, rfl, rfl, rfl⟩)
theorem k_l6Some : SoundC Tryd.prog K_l6Some.1 K_l6Some.2 := sound_ofW hm (((((CtxOK.nil.and k_lAny).and k_l4Some).and k_num).and k_pick).and k_l6Any) (fun _ => []) (by kernel_rfl) fun ((b, p, s) : BX) hb => g_l6Some b p s hb.1 hb.2
end Cg

/-
  Plain laws of literals in models: strict and weak bounds, equality turned round, the model of no rows, parts of sums. No condition.
-/
set_option linter.unusedVariables false
set_option linter.unusedSimpArgs false
namespace Pl
open Go Cg
end Pl

/-
  The codes' contracts: drawn literals, and laws of literals in models. No condition.
-/
set_option linter.unusedVariables false
set_option linter.unusedSimpArgs false
set_option maxRecDepth 100000
namespace Cg
open Go Go.Proofs Pl
theorem _root_.Pl.LsB.push {n n' : Nat} {l : List Ltr} {x : Ltr} (h : LsB n l) (hx : AtB 4 x.1) (hn : n + 1 ≤ n') : LsB n' (l ++ [x]) := ⟨by have := h.1; simp; omega, mem_push_imp h.2 hx⟩
set_option maxHeartbeats 8000000 in
theorem g_l6Copy (x : Pl.Atm) (hl : SmA x) : GoalW Tryd.prog [K_lCopy] (A_l6Copy x) K_l6Copy.1 K_l6Copy.2 (x) := GoalW.of (vc_l6Copy x) (by
  simp (maxSteps := 2000000) [-List.getD_eq_getElem?_getD, -List.mem_cons, -Bool.forall_bool, -Bool.exists_bool, and_assoc, peta, tl_inj, ex_1, ex_2, ex_3, ex_4, ex_5, ex_6, ex_7, ex_8, ex_9, ey_2, ey_3, ey_4, ey_5, ey_6, ey_7, ey_8, ey_9]
  have hl' : costA x ≤ 1048576 := hl
  unfold costA at hl'
  refine ⟨by omega, by omega, by omega, ⟨0, by omega, rfl, rfl, .inl rfl⟩, fun k hk => ⟨fun hlt => ?_, fun hge => List.take_of_length_le hge⟩⟩
  have ht := costT_mem (getD_mem dT hlt)
  exact ⟨hlt, by omega, by omega, k + 1, hlt, by omega, wrap_succ hlt (by omega), by omega, copy_push hk hlt⟩)
theorem k_l6Copy : SoundC Tryd.prog K_l6Copy.1 K_l6Copy.2 := sound_ofW hm (CtxOK.nil.and k_lCopy) (fun (x : Pl.Atm) => A_l6Copy x) (by kernel_rfl) fun (x : Pl.Atm) hb => g_l6Copy x hb
end Cg

/-
  What is left to show of each function's code, printed by a program: Txt. No condition.
-/
set_option maxRecDepth 100000
set_option linter.unusedVariables false
namespace Cg
open Go Go.Proofs
theorem vc_atomText (x : Pl.Atm) : (condP (x.1 == (1 : Int))
 (∃ x_1 : Pl.TP,
 ((x.2.1.1 = x_1.1 ∧ Is (terms x.2.1.2) (terms x_1.2) ∧ True) ∧ True) ∧ SmT (Pl.Tree.mk x_1.1 x_1.2) ∧ (↑((Pl.textT (Pl.Tree.mk x_1.1 x_1.2)).size + (1 : Nat)) : Int) ≤ (9223372036854775807 : Int) ∧ ∃ x_2 : Pl.TP,
 ((x.2.2.1.1 = x_2.1 ∧ Is (terms x.2.2.1.2) (terms x_2.2) ∧ True) ∧ True) ∧ SmT (Pl.Tree.mk x_2.1 x_2.2) ∧ (↑((Pl.textT (Pl.Tree.mk x_1.1 x_1.2) ++ ByteArray.mk #[(61 : UInt8)]).size + (Pl.textT (Pl.Tree.mk x_2.1 x_2.2)).size) : Int) ≤ (9223372036854775807 : Int) ∧ Pl.textT (Pl.Tree.mk x_1.1 x_1.2) ++ ByteArray.mk #[(61 : UInt8)] ++ Pl.textT (Pl.Tree.mk x_2.1 x_2.2) = Pl.mkB (Pl.atomB x))
 ((∃ x_1 : Nat,
 (¬x.1 = (1 : Int) ∧ x_1 ≤ x.2.2.2.1.length) ∧ ((0 : Nat) = (0 : Nat) ∧ ByteArray.mk #[] = Pl.mkB (Pl.numsB (List.take x_1 x.2.2.2.1) (List.take x_1 x.2.2.2.2.1)) ∧ Is (terms x.2.2.2.1) (terms x.2.2.2.1) ∧ (↑x.2.2.2.1.length : Int) = (↑x.2.2.2.1.length : Int) ∧ (0 : Int) = (↑x_1 : Int) ∧ True) ∧ (x.1 = x.1 ∧ x.2.1.1 = x.2.1.1 ∧ Is (terms x.2.1.2) (terms x.2.1.2) ∧ x.2.2.1.1 = x.2.2.1.1 ∧ Is (terms x.2.2.1.2) (terms x.2.2.1.2) ∧ Is (terms x.2.2.2.1) (terms x.2.2.2.1) ∧ Is (ints x.2.2.2.2.1) (ints x.2.2.2.2.1) ∧ x.2.2.2.2.2.1 = x.2.2.2.2.2.1 ∧ x.2.2.2.2.2.2 = x.2.2.2.2.2.2 ∧ True) ∧ True) ∧ ∀ (x_1 : Nat),
 ¬x.1 = (1 : Int) ∧ x_1 ≤ x.2.2.2.1.length →
 condP (decide ((↑x_1 : Int) < (↑x.2.2.2.1.length : Int)))
 (((0 : Int) ≤ (↑x_1 : Int) ∧ (↑x_1 : Int) < (↑x.2.2.2.1.length : Int)) ∧ x_1 < x.2.2.2.1.length ∧ ((0 : Int) ≤ (↑x_1 : Int) ∧ (↑x_1 : Int) < (↑x.2.2.2.2.1.length : Int)) ∧ x_1 < x.2.2.2.2.1.length ∧ ∃ x_2 : Int,
 (x.2.2.2.2.1.getD x_1 (0 : Int) = x_2 ∧ True) ∧ Pl.In64 x_2 ∧ (↑((Pl.dec x_2).size + (1 : Nat)) : Int) ≤ (9223372036854775807 : Int) ∧ ∃ x_3 : Pl.TP,
 ((Pl.Tree.val (x.2.2.2.1.getD x_1 Pl.dT) = x_3.1 ∧ Is (kidsT (x.2.2.2.1.getD x_1 Pl.dT)) (terms x_3.2) ∧ True) ∧ True) ∧ SmT (Pl.Tree.mk x_3.1 x_3.2) ∧ (↑((Pl.dec x_2 ++ ByteArray.mk #[(42 : UInt8)]).size + (Pl.textT (Pl.Tree.mk x_3.1 x_3.2)).size) : Int) ≤ (9223372036854775807 : Int) ∧ (↑((Pl.dec x_2 ++ ByteArray.mk #[(42 : UInt8)] ++ Pl.textT (Pl.Tree.mk x_3.1 x_3.2)).size + (1 : Nat)) : Int) ≤ (9223372036854775807 : Int) ∧ (↑((Pl.mkB (Pl.numsB (List.take x_1 x.2.2.2.1) (List.take x_1 x.2.2.2.2.1))).size +
 (Pl.dec x_2 ++ ByteArray.mk #[(42 : UInt8)] ++ Pl.textT (Pl.Tree.mk x_3.1 x_3.2) ++ ByteArray.mk #[(32 : UInt8)]).size) :
 Int) ≤
 (9223372036854775807 : Int) ∧ Exists fun (x' : Nat) =>
 (¬x.1 = (1 : Int) ∧ x' ≤ x.2.2.2.1.length) ∧ x.2.2.2.1.length - x' < x.2.2.2.1.length - x_1 ∧ ((0 : Nat) = (0 : Nat) ∧ Pl.mkB (Pl.numsB (List.take x_1 x.2.2.2.1) (List.take x_1 x.2.2.2.2.1)) ++
 (Pl.dec x_2 ++ ByteArray.mk #[(42 : UInt8)] ++ Pl.textT (Pl.Tree.mk x_3.1 x_3.2) ++ ByteArray.mk #[(32 : UInt8)]) =
 Pl.mkB (Pl.numsB (List.take x' x.2.2.2.1) (List.take x' x.2.2.2.2.1)) ∧ Is (terms x.2.2.2.1) (terms x.2.2.2.1) ∧ (↑x.2.2.2.1.length : Int) = (↑x.2.2.2.1.length : Int) ∧ IntKind.i64.wrap ((↑x_1 : Int) + (1 : Int)) = (↑x' : Int) ∧ True) ∧ (x.1 = x.1 ∧ x.2.1.1 = x.2.1.1 ∧ Is (terms x.2.1.2) (terms x.2.1.2) ∧ x.2.2.1.1 = x.2.2.1.1 ∧ Is (terms x.2.2.1.2) (terms x.2.2.1.2) ∧ Is (terms x.2.2.2.1) (terms x.2.2.2.1) ∧ Is (ints x.2.2.2.2.1) (ints x.2.2.2.2.1) ∧ x.2.2.2.2.2.1 = x.2.2.2.2.2.1 ∧ x.2.2.2.2.2.2 = x.2.2.2.2.2.2 ∧ True) ∧ True)
 (∃ x_2 : Bool,
 (x.2.2.2.2.2.2 = x_2 ∧ True) ∧ True ∧ (↑((Pl.mkB (Pl.numsB (List.take x_1 x.2.2.2.1) (List.take x_1 x.2.2.2.2.1))).size + (Pl.mkB (Pl.signB x_2)).size) : Int) ≤ (9223372036854775807 : Int) ∧ (↑((Pl.mkB (Pl.numsB (List.take x_1 x.2.2.2.1) (List.take x_1 x.2.2.2.2.1)) ++ Pl.mkB (Pl.signB x_2)).size + (1 : Nat)) : Int) ≤ (9223372036854775807 : Int) ∧ ∃ x_3 : Int,
 (x.2.2.2.2.2.1 = x_3 ∧ True) ∧ Pl.In64 x_3 ∧ (↑((Pl.mkB (Pl.numsB (List.take x_1 x.2.2.2.1) (List.take x_1 x.2.2.2.2.1)) ++ Pl.mkB (Pl.signB x_2) ++ ByteArray.mk #[(32 : UInt8)]).size +
 (Pl.dec x_3).size) :
 Int) ≤
 (9223372036854775807 : Int) ∧ Pl.mkB (Pl.numsB (List.take x_1 x.2.2.2.1) (List.take x_1 x.2.2.2.2.1)) ++ Pl.mkB (Pl.signB x_2) ++ ByteArray.mk #[(32 : UInt8)] ++ Pl.dec x_3 =
 Pl.mkB (Pl.atomB x)))) = Goal Tryd.prog [K_tText, K_Itoa, K_sign] (A_atomText x) K_atomText.1 K_atomText.2 (x) := by kernel_rfl

theorem vc_iAtomText (x : Pl.Atm) : (∃ x_1 : Pl.Atm,
 ((x.1 = x_1.1 ∧ x.2.1.1 = x_1.2.1.1 ∧ Is (terms x.2.1.2) (terms x_1.2.1.2) ∧ x.2.2.1.1 = x_1.2.2.1.1 ∧ Is (terms x.2.2.1.2) (terms x_1.2.2.1.2) ∧ Is (terms x.2.2.2.1) (terms x_1.2.2.2.1) ∧ Is (ints x.2.2.2.2.1) (ints x_1.2.2.2.2.1) ∧ x.2.2.2.2.2.1 = x_1.2.2.2.2.2.1 ∧ x.2.2.2.2.2.2 = x_1.2.2.2.2.2.2 ∧ True) ∧ True) ∧ SmA x_1 ∧ condP (!Pl.atomRight x_1) (ByteArray.mk #[] = Pl.tx (Pl.atomRight x) (Pl.atomB x))
 (∃ x_2 : Pl.Atm,
 ((x.1 = x_2.1 ∧ x.2.1.1 = x_2.2.1.1 ∧ Is (terms x.2.1.2) (terms x_2.2.1.2) ∧ x.2.2.1.1 = x_2.2.2.1.1 ∧ Is (terms x.2.2.1.2) (terms x_2.2.2.1.2) ∧ Is (terms x.2.2.2.1) (terms x_2.2.2.2.1) ∧ Is (ints x.2.2.2.2.1) (ints x_2.2.2.2.2.1) ∧ x.2.2.2.2.2.1 = x_2.2.2.2.2.2.1 ∧ x.2.2.2.2.2.2 = x_2.2.2.2.2.2.2 ∧ True) ∧ True) ∧ (SmA x_2 ∧ Pl.atomRight x_2 = true) ∧ Pl.mkB (Pl.atomB x_2) = Pl.tx (Pl.atomRight x) (Pl.atomB x))) = Goal Tryd.prog [K_Atomok, K_atomText] ([]) K_iAtomText.1 K_iAtomText.2 (x) := by kernel_rfl

theorem vc_sign (x : Bool) : (condP x (ByteArray.mk #[(60 : UInt8)] = Pl.mkB (Pl.signB x)) (ByteArray.mk #[(60 : UInt8), (61 : UInt8)] = Pl.mkB (Pl.signB x))) = Goal Tryd.prog [] ([]) K_sign.1 K_sign.2 (x) := by kernel_rfl

end Cg

/-
  The codes' contracts: texts. No condition.
-/
set_option linter.unusedVariables false
set_option linter.unusedSimpArgs false
set_option maxRecDepth 100000
namespace Pl
open Go Cg
theorem bapp (a b : List UInt8) : mkB a ++ mkB b = mkB (a ++ b) := by
  apply ByteArray.ext
  rw [ByteArray.data_append]
  apply Array.toList_inj.1
  rw [Array.toList_append]
  rfl
theorem lit0 : ByteArray.mk #[] = mkB [] := rfl
theorem lit1 (a : UInt8) : ByteArray.mk #[a] = mkB [a] := rfl
theorem lit2 (a b : UInt8) : ByteArray.mk #[a, b] = mkB [a, b] := rfl
theorem lit3 (a b c : UInt8) : ByteArray.mk #[a, b, c] = mkB [a, b, c] := rfl
theorem lit4 (a b c d : UInt8) : ByteArray.mk #[a, b, c, d] = mkB [a, b, c, d] := rfl
theorem dec_eq (n : Int) : dec n = mkB (itoa n) := rfl
theorem textT_eq (t : Tm) : textT t = mkB (textB t) := rfl
theorem byteS_eq (x : Int) : byteS x = mkB [UInt8.ofNat x.toNat] := rfl
theorem mkB_inj {a b : List UInt8} : mkB a = mkB b ↔ a = b := ⟨fun h => by
  have : (mkB a).data.toList = (mkB b).data.toList := by rw [h]
  exact this, fun h => by rw [h]⟩
theorem tx_no {ok : Bool} {l : List UInt8} (h : ok = false) : tx ok l = mkB [] := by unfold tx; rw [if_neg (by rw [h]; decide)]; rfl
theorem tx_yes {ok : Bool} {l : List UInt8} (h : ok = true) : tx ok l = mkB l := by unfold tx; rw [if_pos h]
theorem digits_len : ∀ (k u : Nat), u < 10 ^ (k + 1) → (Go.Lib.decDigits u).length ≤ k + 1
  | 0, u, h => by rw [Go.Lib.decDigits, dif_pos (by simpa using h)]; simp
  | k + 1, u, h => by
    rw [Go.Lib.decDigits]
    split
    · simp
    · have := digits_len k (u / 10) (by rw [Nat.pow_succ] at h; omega)
      simp; omega
theorem itoa_len {n : Int} (h : In64 n) : (itoa n).length ≤ 21 := by
  obtain ⟨h1, h2⟩ := h
  unfold itoa Go.Lib.itoa
  split
  · have := digits_len 19 n.natAbs (by omega)
    simp only [List.length_cons]; omega
  · have := digits_len 19 n.toNat (by omega)
    omega
theorem numOk_times : ∀ {nums : List Tm} {times : List Int} {p : Option Tm}, nums.length = times.length → numOk p nums times = true → ∀ n ∈ times, timeOk n = true
  | [], [], _, _, _, t, h => by cases h
  | [], _ :: _, _, hl, _, _, _ => by simp at hl
  | x :: nums, [], _, hl, _, _, _ => by simp at hl
  | x :: nums, n :: times, p, hl, h, t, ht => by
    simp only [numOk, Bool.and_eq_true] at h
    rcases List.mem_cons.1 ht with e | e
    · subst e; exact h.1.1.2
    · exact numOk_times (by simpa using hl) h.2 t e
theorem sum_facts {x : Atm} (h0 : ¬ x.1 = 1) (h : atomRight x = true) : x.2.2.2.1.length = x.2.2.2.2.1.length ∧ x.2.2.2.1.length ≤ 4 ∧ In64 x.2.2.2.2.2.1 ∧ ∀ n ∈ x.2.2.2.2.1, In64 n := by
  have e : sumRight x = true := by
    unfold atomRight at h
    split at h
    · exact h
    · rw [decide_eq_false h0] at h; cases h
  unfold sumRight at e
  rw [Bool.and_eq_true] at e
  obtain ⟨kind, a, b, nums, times, bound, strict⟩ := x
  have q := (head_iff kind a b nums times bound strict).1 e.1
  refine ⟨q.2.2.1, q.2.2.2.2.1, ⟨by dsimp only; omega, by dsimp only; omega⟩, fun n hn => ?_⟩
  have := timeOk_iff.1 (numOk_times q.2.2.1 e.2 n hn)
  exact ⟨by omega, by omega⟩
theorem numsB_step : ∀ {ts : List Tm} {ns : List Int} {k : Nat}, k < ts.length → k < ns.length → numsB (ts.take (k + 1)) (ns.take (k + 1)) = numsB (ts.take k) (ns.take k) ++ numB (ts.getD k dT) (ns.getD k 0)
  | [], _, _, h, _ => by simp at h
  | _ :: _, [], _, _, h => by simp at h
  | t :: ts, n :: ns, 0, _, _ => by simp [numsB]
  | t :: ts, n :: ns, k + 1, h1, h2 => by
    have := numsB_step (ts := ts) (ns := ns) (k := k) (by simpa using h1) (by simpa using h2)
    simp only [List.take_succ_cons, numsB, List.getD_cons_succ, this, List.append_assoc]
theorem numB_len {t : Tm} {n : Int} (h1 : SmT t) (h2 : In64 n) : (numB t n).length ≤ 2097175 := by
  have := textB_len t
  have := itoa_len h2
  have h1 : costT t ≤ 1048576 := h1
  unfold numB
  simp only [List.length_append, List.length_singleton]
  omega
theorem numsB_len : ∀ {ts : List Tm} {ns : List Int}, (∀ t ∈ ts, SmT t) → (∀ n ∈ ns, In64 n) → (numsB ts ns).length ≤ ts.length * 2097175
  | [], _, _, _ => by simp [numsB]
  | _ :: _, [], _, _ => by simp [numsB]
  | t :: ts, n :: ns, h1, h2 => by
    have h3 := numB_len (h1 t List.mem_cons_self) (h2 n List.mem_cons_self)
    have h4 := numsB_len (ts := ts) (ns := ns) (fun x hx => h1 x (List.mem_cons_of_mem _ hx)) fun x hx => h2 x (List.mem_cons_of_mem _ hx)
    simp only [numsB, List.length_append, List.length_cons, Nat.succ_mul]
    omega
theorem numsB_take {ts : List Tm} {ns : List Int} (h0 : ts.length ≤ 4) (h1 : ∀ t ∈ ts, SmT t) (h2 : ∀ n ∈ ns, In64 n) (k : Nat) : (numsB (ts.take k) (ns.take k)).length ≤ 8388700 := by
  have h := numsB_len (ts := ts.take k) (ns := ns.take k) (fun t h => h1 t (List.mem_of_mem_take h)) fun n h => h2 n (List.mem_of_mem_take h)
  have h3 : (ts.take k).length ≤ 4 := by simp; omega
  have := Nat.mul_le_mul_right 2097175 h3
  omega
theorem atomB_eq {x : Atm} (h : x.1 = 1) : atomB x = textB (.mk x.2.1.1 x.2.1.2) ++ [61] ++ textB (.mk x.2.2.1.1 x.2.2.1.2) := if_pos h
theorem atomB_sum {x : Atm} (h : ¬ x.1 = 1) : atomB x = numsB x.2.2.2.1 x.2.2.2.2.1 ++ (if x.2.2.2.2.2.2 = true then [60, 32] else [60, 61, 32]) ++ itoa x.2.2.2.2.2.1 := if_neg h
end Pl
namespace Cg
open Go Go.Proofs Pl
theorem Ext.grow (w : World) (k : Nat) (os : Array Obj) : Ext w (Go.Sort.grow (w.drewN k) os) := ⟨rfl, rfl, rfl, by show _ ≤ (w.heap ++ os).size; simp, fun b hb => by show (w.heap ++ os)[b]? = _; rw [Array.getElem?_append_left hb]⟩
theorem tab_pow {S : Nat → Prop} {w : World} (h : Gl S w) : Go.Lib.TabIs Tryd.prog w "internal/strconv.uint64pow10" .u64 Go.Lib.pow10Tab := by
  obtain ⟨h1, c, T, fr, h2, h3⟩ := h _ List.mem_cons_self
  unfold Go.Lib.TabIs World.var?
  rw [show Tryd.prog.globalNamed "internal/strconv.uint64pow10" = some 0 by kernel_rfl]
  have h2 : w.heap[(0 : Nat)]? = some (.cells c T fr) := h2
  have h3 : c = ((List.range 20).map fun i => Value.int .u64 ((10 ^ i : Nat) : Int)).toArray := h3
  simp only [Option.bind_some, h2, h3]
  unfold Go.Lib.pow10Tab
  rw [List.map_map]
  rfl
theorem k_Itoa : SoundC Tryd.prog K_Itoa.1 K_Itoa.2 := ⟨callable_of (by kernel_rfl), fun x hx S w vals hin hgl hrel => by
  obtain ⟨y0, r0, rfl, ha, hc⟩ := hrel
  cases hc
  have ha : y0 = .int .i64 x := ha
  subst ha
  exact (Tryd.strconv_Itoa x (Int.le_trans (by decide) hx.1) hx.2 w (tab_pow hgl)).mono fun e w' ⟨he, k, os, hw⟩ => by
    subst hw
    exact ⟨_, S, he, Ext.grow w k os, fun _ h => h, fun _ h => .inl h, fun b hb => Nat.lt_of_lt_of_le (hin b hb) (Ext.grow w k os).size, rfl⟩⟩
set_option maxHeartbeats 8000000 in
theorem g_sign (x : Bool)  : GoalW Tryd.prog [] ([]) K_sign.1 K_sign.2 (x) := GoalW.of (vc_sign x) (by
  simp only [lit0, lit1, lit2, lit3, lit4, dec_eq, textT_eq, byteS_eq, bapp, mkB_size, mkB_inj]
  simp (maxSteps := 2000000) [-List.getD_eq_getElem?_getD, -List.mem_cons, -Bool.forall_bool, -Bool.exists_bool, and_assoc, peta, tl_inj, ex_1, ex_2, ex_3, ex_4, ex_5, ex_6, ex_7, ex_8, ex_9, ey_2, ey_3, ey_4, ey_5, ey_6, ey_7, ey_8, ey_9]
  exact ⟨fun h => by rw [h]; rfl, fun h => by rw [h]; rfl⟩)
theorem k_sign : SoundC Tryd.prog K_sign.1 K_sign.2 := sound_ofW hm CtxOK.nil (fun (x : Bool) => []) (by kernel_rfl) fun (x : Bool) hb => g_sign x 
set_option maxHeartbeats 8000000 in
theorem g_atomText (x : Pl.Atm) (h1 : SmA x) (h2 : atomRight x = true) : GoalW Tryd.prog [K_tText, K_Itoa, K_sign] (A_atomText x) K_atomText.1 K_atomText.2 (x) := GoalW.of (vc_atomText x) (by
  simp only [lit0, lit1, lit2, lit3, lit4, dec_eq, textT_eq, byteS_eq, bapp, mkB_size, mkB_inj]
  simp (maxSteps := 2000000) [-List.getD_eq_getElem?_getD, -List.mem_cons, -Bool.forall_bool, -Bool.exists_bool, and_assoc, peta, tl_inj, ex_1, ex_2, ex_3, ex_4, ex_5, ex_6, ex_7, ex_8, ex_9, ey_2, ey_3, ey_4, ey_5, ey_6, ey_7, ey_8, ey_9]
  obtain ⟨q1, q2, q3, q4⟩ := SmA.parts h1
  have t1 := textB_len (.mk x.2.1.1 x.2.1.2)
  have t2 := textB_len (.mk x.2.2.1.1 x.2.2.1.2)
  have q1 : costT (.mk x.2.1.1 x.2.1.2) ≤ 1048576 := q1
  have q2 : costT (.mk x.2.2.1.1 x.2.2.1.2) ≤ 1048576 := q2
  refine ⟨fun h0 => ⟨q1, by omega, q2, by omega, by rw [atomB_eq h0]; simp⟩, fun h0 => ?_⟩
  · have h0 : ¬ x.1 = 1 := h0
    obtain ⟨s1, s2, s3, s4⟩ := sum_facts h0 h2
    have i3 := itoa_len s3
    have t3 := fun k => numsB_take s2 (fun t => q3.mem) s4 k
    have hsg : (signB x.2.2.2.2.2.2).length ≤ 2 := by unfold signB; split <;> simp
    refine ⟨h0, ⟨0, by omega, rfl, rfl⟩, fun k _ hk => ⟨fun hlt => ?_, fun hge => ?_⟩⟩
    · have t4 := t3 k
      have i4 := s4 _ (getD_mem 0 (l := x.2.2.2.2.1) (k := k) (by omega))
      have i5 := itoa_len i4
      have q5 : costT (x.2.2.2.1.getD k dT) ≤ 1048576 := q3.mem (getD_mem dT hlt)
      have t5 := textB_len (x.2.2.2.1.getD k dT)
      refine ⟨hlt, by omega, i4, by omega, q5, by omega, by omega, by omega, h0, k + 1, hlt, by omega, ?_, wrap_small (by omega) (by omega)⟩
      rw [numsB_step hlt (by omega)]
      unfold numB
      simp
    · have t4 := t3 k
      refine ⟨by omega, by omega, s3, by omega, ?_⟩
      rw [atomB_sum h0, List.take_of_length_le hge, List.take_of_length_le (by omega)]
      unfold signB
      split <;> simp_all)
theorem k_atomText : SoundC Tryd.prog K_atomText.1 K_atomText.2 := sound_ofW hm (((CtxOK.nil.and k_sign).and k_Itoa).and k_tText) (fun (x : Pl.Atm) => A_atomText x) (by kernel_rfl) fun (x : Pl.Atm) hb => g_atomText x hb.1 hb.2
set_option maxHeartbeats 8000000 in
theorem g_iAtomText (x : Pl.Atm) (h1 : SmA x) : GoalW Tryd.prog [K_Atomok, K_atomText] ([]) K_iAtomText.1 K_iAtomText.2 (x) := GoalW.of (vc_iAtomText x) (by
  simp only [lit0, lit1, lit2, lit3, lit4, dec_eq, textT_eq, byteS_eq, bapp, mkB_size, mkB_inj]
  simp (maxSteps := 2000000) [-List.getD_eq_getElem?_getD, -List.mem_cons, -Bool.forall_bool, -Bool.exists_bool, and_assoc, peta, tl_inj, ex_1, ex_2, ex_3, ex_4, ex_5, ex_6, ex_7, ex_8, ex_9, ey_2, ey_3, ey_4, ey_5, ey_6, ey_7, ey_8, ey_9]
  exact ⟨h1, fun h => (tx_no h).symm, fun h => ⟨h1, h, (tx_yes h).symm⟩⟩)
theorem k_iAtomText : SoundC Tryd.prog K_iAtomText.1 K_iAtomText.2 := sound_ofW hm ((CtxOK.nil.and k_atomText).and k_Atomok) (fun (x : Pl.Atm) => []) (by kernel_rfl) fun (x : Pl.Atm) hb => g_iAtomText x hb
end Cg

/-
  A text is one thing's: no two right atoms have one text. No condition.
-/
set_option linter.unusedVariables false
set_option linter.unusedSimpArgs false
namespace Pl
open Go Cg
/-- Does a list open with a byte of a kind? -/
def opens (p : UInt8 → Bool) : List UInt8 → Bool
  | [] => false
  | c :: _ => p c
def dig (c : UInt8) : Bool := decide (48 ≤ c.toNat) && decide (c.toNat ≤ 57)
theorem split_all {p : UInt8 → Bool} : ∀ {a b r s : List UInt8}, a.all p = true → b.all p = true → opens p r = false → opens p s = false → a ++ r = b ++ s → a = b ∧ r = s
  | [], [], r, s, _, _, _, _, h => ⟨rfl, h⟩
  | [], y :: b, r, s, _, hb, hr, _, h => by
    simp only [List.nil_append, List.cons_append] at h
    subst h
    simp only [List.all_cons, Bool.and_eq_true] at hb
    simp [opens, hb.1] at hr
  | x :: a, [], r, s, ha, _, _, hs, h => by
    simp only [List.nil_append, List.cons_append] at h
    subst h
    simp only [List.all_cons, Bool.and_eq_true] at ha
    simp [opens, ha.1] at hs
  | x :: a, y :: b, r, s, ha, hb, hr, hs, h => by
    simp only [List.cons_append, List.cons.injEq] at h
    simp only [List.all_cons, Bool.and_eq_true] at ha hb
    obtain ⟨h1, h2⟩ := split_all ha.2 hb.2 hr hs h.2
    exact ⟨by rw [h.1, h1], h2⟩
theorem dig_of (d : Nat) (h : d < 10) : dig (UInt8.ofNat (48 + d)) = true := by
  have : d = 0 ∨ d = 1 ∨ d = 2 ∨ d = 3 ∨ d = 4 ∨ d = 5 ∨ d = 6 ∨ d = 7 ∨ d = 8 ∨ d = 9 := by omega
  rcases this with e | e | e | e | e | e | e | e | e | e <;> subst e <;> rfl
theorem dec_dig : ∀ (u : Nat), (Go.Lib.decDigits u).all dig = true := fun u => by
  induction u using Nat.strongRecOn with
  | ind u ih =>
    rw [Go.Lib.decDigits]
    split
    · rename_i h
      rw [List.all_cons, dig_of u h]; rfl
    · rename_i h
      rw [List.all_append, ih (u / 10) (by omega)]
      rw [List.all_cons, dig_of (u % 10) (Nat.mod_lt _ (by omega))]; rfl
def val (l : List UInt8) : Nat := l.foldl (fun a c => a * 10 + (c.toNat - 48)) 0
theorem val_dec (u : Nat) : val (Go.Lib.decDigits u) = u := by
  induction u using Nat.strongRecOn with
  | ind u ih =>
    rw [Go.Lib.decDigits]
    split
    · rename_i h
      show 0 * 10 + ((UInt8.ofNat (48 + u)).toNat - 48) = u
      have : (UInt8.ofNat (48 + u)).toNat = 48 + u := by rw [UInt8.toNat_ofNat']; omega
      rw [this]; omega
    · rename_i h
      unfold val
      rw [List.foldl_append]
      show (val (Go.Lib.decDigits (u / 10))) * 10 + ((UInt8.ofNat (48 + u % 10)).toNat - 48) = u
      have : (UInt8.ofNat (48 + u % 10)).toNat = 48 + u % 10 := by rw [UInt8.toNat_ofNat']; omega
      rw [ih (u / 10) (by omega), this]; omega
theorem dec_ne (u : Nat) : Go.Lib.decDigits u ≠ [] := by
  rw [Go.Lib.decDigits]
  split <;> simp
theorem dec_open (u : Nat) (r : List UInt8) : opens dig (Go.Lib.decDigits u ++ r) = true := by
  have h := dec_dig u
  cases e : Go.Lib.decDigits u with
  | nil => exact absurd e (dec_ne u)
  | cons c l => rw [e] at h; simp only [List.all_cons, Bool.and_eq_true] at h; exact h.1
theorem itoa_split {n m : Int} {r s : List UInt8} (hr : opens dig r = false) (hs : opens dig s = false) (h : itoa n ++ r = itoa m ++ s) : n = m ∧ r = s := by
  unfold itoa Go.Lib.itoa at h
  by_cases h1 : n < 0 <;> by_cases h2 : m < 0
  · rw [if_pos h1, if_pos h2] at h
    simp only [List.cons_append, List.cons.injEq, true_and] at h
    obtain ⟨e1, e2⟩ := split_all (dec_dig _) (dec_dig _) hr hs h
    have := congrArg val e1
    rw [val_dec, val_dec] at this
    exact ⟨by omega, e2⟩
  · rw [if_pos h1, if_neg h2] at h
    have := dec_open m.toNat s
    rw [← h] at this
    simp [opens, dig] at this
  · rw [if_neg h1, if_pos h2] at h
    have := dec_open n.toNat r
    rw [h] at this
    simp [opens, dig] at this
  · rw [if_neg h1, if_neg h2] at h
    obtain ⟨e1, e2⟩ := split_all (dec_dig _) (dec_dig _) hr hs h
    have := congrArg val e1
    rw [val_dec, val_dec] at this
    exact ⟨by omega, e2⟩
theorem itoa_head (n : Int) (r : List UInt8) : opens (fun c => dig c || decide (c = 45)) (itoa n ++ r) = true := by
  unfold itoa Go.Lib.itoa
  split
  · rfl
  · have := dec_open n.toNat r
    cases e : Go.Lib.decDigits n.toNat ++ r with
    | nil => rw [e] at this; cases this
    | cons c l => rw [e] at this; simp only [opens] at this ⊢; rw [this]; rfl
mutual
/-- Is every word of a term a name? -/
def named : Tm → Bool
  | .mk v ks => nameOk v && nameds ks
def nameds : List Tm → Bool
  | [] => true
  | t :: ts => named t && nameds ts
end
/-- What may stand behind a term. -/
def tail (r : List UInt8) : Bool := !opens lower r && !opens (fun c => decide (c = 40)) r
theorem tail_lower {r : List UInt8} (h : tail r = true) : opens lower r = false := by simp only [tail, Bool.and_eq_true, Bool.not_eq_true'] at h; exact h.1
theorem tail_open {r s : List UInt8} (h : tail r = true) : r ≠ 40 :: s := fun e => by subst e; cases h
theorem textB_open (v : ByteArray) (ks : List Tm) (r : List UInt8) : textB (.mk v ks) ++ r = bl' v ++ (if ks = [] then r else 40 :: (interL [44] (textBs ks) ++ 41 :: r)) := by
  rw [textB]
  cases ks with
  | nil => simp
  | cons k ks => simp
theorem name_lower {v : ByteArray} (h : nameOk v = true) : (bl' v).all lower = true := by
  simp only [nameOk, Bool.and_eq_true] at h; exact h.2
mutual
theorem text_split : ∀ (t u : Tm) (r s : List UInt8), named t = true → named u = true → tail r = true → tail s = true → textB t ++ r = textB u ++ s → t = u ∧ r = s
  | .mk v ks, .mk v' ks', r, s, ht, hu, hr, hs, h => by
    simp only [named, Bool.and_eq_true] at ht hu
    rw [textB_open, textB_open] at h
    have o : ∀ (ks : List Tm) (r : List UInt8), tail r = true → opens lower (if ks = [] then r else 40 :: (interL [44] (textBs ks) ++ 41 :: r)) = false := fun ks r hr => by
      split
      · exact tail_lower hr
      · rfl
    obtain ⟨e1, e2⟩ := split_all (name_lower ht.1) (name_lower hu.1) (o ks r hr) (o ks' s hs) h
    have e1 : v = v' := mkB_inj.2 e1
    subst e1
    by_cases h1 : ks = [] <;> by_cases h2 : ks' = []
    · rw [if_pos h1, if_pos h2] at e2; exact ⟨by rw [h1, h2], e2⟩
    · rw [if_pos h1, if_neg h2] at e2; exact absurd e2 (tail_open hr)
    · rw [if_neg h1, if_pos h2] at e2; exact absurd e2.symm (tail_open hs)
    · rw [if_neg h1, if_neg h2] at e2
      simp only [List.cons.injEq, true_and] at e2
      obtain ⟨e3, e4⟩ := texts_split ks ks' r s h1 h2 ht.2 hu.2 e2
      exact ⟨by rw [e3], e4⟩
theorem texts_split : ∀ (ts us : List Tm) (r s : List UInt8), ts ≠ [] → us ≠ [] → nameds ts = true → nameds us = true → interL [44] (textBs ts) ++ 41 :: r = interL [44] (textBs us) ++ 41 :: s → ts = us ∧ r = s
  | [], _, _, _, h, _, _, _, _ => absurd rfl h
  | [t], us, r, s, _, hu, h1, h2, h => by
    simp only [nameds, Bool.and_eq_true, Bool.and_true] at h1
    cases us with
    | nil => exact absurd rfl hu
    | cons u us =>
      simp only [nameds, Bool.and_eq_true] at h2
      cases us with
      | nil =>
        obtain ⟨e1, e2⟩ := text_split t u (41 :: r) (41 :: s) h1 h2.1 rfl rfl h
        simp only [List.cons.injEq, true_and] at e2
        exact ⟨by rw [e1], e2⟩
      | cons u2 us =>
        simp only [textBs, interL, List.append_assoc] at h
        obtain ⟨e1, e2⟩ := text_split t u (41 :: r) _ h1 h2.1 rfl rfl h
        simp at e2
  | t :: t2 :: ts, us, r, s, _, hu, h1, h2, h => by
    rw [nameds, Bool.and_eq_true] at h1
    cases us with
    | nil => exact absurd rfl hu
    | cons u us =>
      rw [nameds, Bool.and_eq_true] at h2
      cases us with
      | nil =>
        simp only [textBs, interL, List.append_assoc] at h
        obtain ⟨e1, e2⟩ := text_split t u _ (41 :: s) h1.1 h2.1 rfl rfl h
        simp at e2
      | cons u2 us =>
        have h' : textB t ++ (44 :: (interL [44] (textBs (t2 :: ts)) ++ 41 :: r)) = textB u ++ (44 :: (interL [44] (textBs (u2 :: us)) ++ 41 :: s)) := by
          simpa [textBs, interL] using h
        obtain ⟨e1, e2⟩ := text_split t u _ _ h1.1 h2.1 rfl rfl h'
        simp only [List.cons.injEq, true_and] at e2
        obtain ⟨e3, e4⟩ := texts_split (t2 :: ts) (u2 :: us) r s (by simp) (by simp) h1.2 h2.2 e2
        exact ⟨by rw [e1, e3], e4⟩
end
theorem shape_named : ∀ (n : Nat) (t : Tm), shape n t = true → named t = true
  | 0, _, h => by cases h
  | n + 1, .mk v ks, h => by
    simp only [shape, Bool.and_eq_true, List.all_eq_true] at h
    have hk : ∀ l : List Tm, (∀ t ∈ l, shape n t = true) → nameds l = true := fun l hl => by
      induction l with
      | nil => rfl
      | cons t ts ih =>
        rw [nameds, shape_named n t (hl t List.mem_cons_self), ih fun x hx => hl x (List.mem_cons_of_mem _ hx)]; rfl
    rw [named, Bool.and_eq_true]
    exact ⟨h.1.1, hk ks h.2⟩
theorem right_named {t : Tm} (h : right t = true) : named t = true := by
  unfold right at h
  rw [Bool.and_eq_true] at h
  exact shape_named 4 t h.1
theorem text_inj {t u : Tm} (ht : right t = true) (hu : right u = true) (h : textB t = textB u) : t = u := by
  have h : textB t ++ [] = textB u ++ [] := by rw [h]
  exact (text_split t u [] [] (right_named ht) (right_named hu) rfl rfl h).1
theorem text_head {t : Tm} (h : named t = true) (r : List UInt8) : opens lower (textB t ++ r) = true := by
  obtain ⟨v, ks⟩ := t
  simp only [named, Bool.and_eq_true] at h
  rw [textB_open]
  have h1 := name_lower h.1
  have h2 : 1 ≤ v.size := by have := h.1; simp only [nameOk, Bool.and_eq_true, decide_eq_true_eq] at this; exact this.1.1
  cases e : bl' v with
  | nil =>
    have : (bl' v).length = v.size := rfl
    rw [e] at this; simp at this; omega
  | cons c l => rw [e] at h1; simp only [List.all_cons, Bool.and_eq_true] at h1; exact h1.1
theorem low_dig {c : UInt8} {l : List UInt8} (h1 : opens lower (c :: l) = true) (h2 : opens (fun c => dig c || decide (c = 45)) (c :: l) = true) : False := by
  simp only [opens, lower, dig, Bool.not_eq_true', Bool.or_eq_false_iff, Bool.or_eq_true, Bool.and_eq_true, decide_eq_true_eq, decide_eq_false_iff_not] at h1 h2
  rcases h2 with h2 | h2
  · omega
  · subst h2; exact absurd h1.1 (by decide)
theorem nums_split : ∀ {ts us : List Tm} {ns ms : List Int} {r s : List UInt8}, (∀ t ∈ ts, named t = true) → (∀ t ∈ us, named t = true) → ts.length = ns.length → us.length = ms.length →
    opens (fun c => decide (c = 60)) r = true → opens (fun c => decide (c = 60)) s = true → numsB ts ns ++ r = numsB us ms ++ s → ts = us ∧ ns = ms ∧ r = s
  | [], [], [], [], r, s, _, _, _, _, _, _, h => ⟨rfl, rfl, h⟩
  | t :: ts, us, [], ms, r, s, _, _, h, _, _, _, _ => by simp at h
  | [], us, n :: ns, ms, r, s, _, _, h, _, _, _, _ => by simp at h
  | ts, u :: us, ns, [], r, s, _, _, _, h, _, _, _ => by simp at h
  | ts, [], ns, m :: ms, r, s, _, _, _, h, _, _, _ => by simp at h
  | t :: ts, [], n :: ns, [], r, s, _, _, _, _, hr, hs, h => by
    have e : itoa n ++ ([42] ++ textB t ++ [32] ++ numsB ts ns ++ r) = s := by simpa [numsB, numB] using h
    have := itoa_head n ([42] ++ textB t ++ [32] ++ numsB ts ns ++ r)
    rw [e] at this
    cases s with
    | nil => cases hs
    | cons c l =>
      have hc : c = 60 := by simpa [opens] using hs
      subst hc; cases this
  | [], u :: us, [], m :: ms, r, s, _, _, _, _, hr, hs, h => by
    have e : r = itoa m ++ ([42] ++ textB u ++ [32] ++ numsB us ms ++ s) := by simpa [numsB, numB] using h
    have := itoa_head m ([42] ++ textB u ++ [32] ++ numsB us ms ++ s)
    rw [← e] at this
    cases r with
    | nil => cases hr
    | cons c l =>
      have hc : c = 60 := by simpa [opens] using hr
      subst hc; cases this
  | t :: ts, u :: us, n :: ns, m :: ms, r, s, ht, hu, h1, h2, hr, hs, h => by
    have h' : itoa n ++ (42 :: (textB t ++ (32 :: (numsB ts ns ++ r)))) = itoa m ++ (42 :: (textB u ++ (32 :: (numsB us ms ++ s)))) := by simpa [numsB, numB] using h
    obtain ⟨e1, e2⟩ := itoa_split rfl rfl h'
    simp only [List.cons.injEq, true_and] at e2
    obtain ⟨e3, e4⟩ := text_split t u _ _ (ht t List.mem_cons_self) (hu u List.mem_cons_self) rfl rfl e2
    simp only [List.cons.injEq, true_and] at e4
    obtain ⟨e5, e6, e7⟩ := nums_split (fun x hx => ht x (List.mem_cons_of_mem _ hx)) (fun x hx => hu x (List.mem_cons_of_mem _ hx)) (by simpa using h1) (by simpa using h2) hr hs e4
    exact ⟨by rw [e3, e5], by rw [e1, e6], e7⟩
theorem noneT_eq {x : TP} (h : noneT x = true) : x = (ByteArray.empty, []) := by
  simp only [noneT, Bool.and_eq_true, decide_eq_true_eq] at h
  exact Prod.ext h.1 h.2
theorem atomB_inj {x y : Atm} (hx : atomRight x = true) (hy : atomRight y = true) (h : atomB x = atomB y) : x = y := by
  obtain ⟨k, ⟨a, as_⟩, ⟨b, bs_⟩, ts, ns, bd, sc⟩ := x
  obtain ⟨k', ⟨a', as'⟩, ⟨b', bs'⟩, ts', ns', bd', sc'⟩ := y
  have rx := right_eq hx
  have ry := right_eq hy
  have two : ∀ {k : Int} {a b : TP} {ts : List Tm} {ns : List Int} {bd : Int} {sc : Bool}, ¬ k = 1 → atomRight (k, a, b, ts, ns, bd, sc) = true → k = 2 ∧ noneT a = true ∧ noneT b = true ∧ ts.length = ns.length ∧ 1 ≤ ts.length := by
    intro k a b ts ns bd sc h1 h2
    unfold atomRight at h2
    split at h2
    · rename_i hk
      simp only [sumRight, Bool.and_eq_true] at h2
      have q := (head_iff k a b ts ns bd sc).1 h2.1
      exact ⟨hk, q.1, q.2.1, q.2.2.1, q.2.2.2.1⟩
    · rw [Bool.and_eq_true] at h2
      exact absurd (by simpa using h2.1) h1
  have one : ∀ {k : Int} {a b : TP} {ts : List Tm} {ns : List Int} {bd : Int} {sc : Bool}, k = 1 → atomRight (k, a, b, ts, ns, bd, sc) = true → ts = [] ∧ ns = [] ∧ bd = 0 ∧ sc = false := by
    intro k a b ts ns bd sc h1 h2
    subst h1
    simp only [atomRight, eqRight, Bool.and_eq_true, decide_eq_true_eq, Bool.not_eq_true'] at h2
    rw [if_neg (by decide)] at h2
    simp only [Bool.and_eq_true, decide_eq_true_eq, Bool.not_eq_true'] at h2
    exact ⟨h2.2.1.1.1.2, h2.2.1.1.2, h2.2.1.2, h2.2.2⟩
  by_cases h1 : k = 1 <;> by_cases h2 : k' = 1
  · rw [atomB_eq h1, atomB_eq h2] at h
    obtain ⟨p1, p2, p3, p4⟩ := one h1 hx
    obtain ⟨q1, q2, q3, q4⟩ := one h2 hy
    obtain ⟨u1, u2⟩ := rx.1 h1
    obtain ⟨v1, v2⟩ := ry.1 h2
    have h : textB (.mk a as_) ++ (61 :: textB (.mk b bs_)) = textB (.mk a' as') ++ (61 :: textB (.mk b' bs')) := by simpa using h
    obtain ⟨e1, e2⟩ := text_split _ _ _ _ (right_named u1) (right_named v1) rfl rfl h
    simp only [List.cons.injEq, true_and] at e2
    have e3 := text_inj u2 v2 e2
    cases e1; cases e3
    subst p1; subst p2; subst p3; subst p4; subst q1; subst q2; subst q3; subst q4; subst h1; subst h2
    rfl
  · exfalso
    rw [atomB_eq h1, atomB_sum h2] at h
    obtain ⟨_, _, _, q4, q5⟩ := two h2 hy
    have := text_head (right_named (rx.1 h1).1) ([61] ++ textB (.mk b bs_))
    dsimp only at h
    rw [← List.append_assoc, h] at this
    cases ts' with
    | nil => simp at q5
    | cons t l => cases ns' with
      | nil => simp at q4
      | cons n m =>
        have hh := itoa_head n ([42] ++ textB t ++ [32] ++ (numsB l m ++ ((if sc' = true then [60, 32] else [60, 61, 32]) ++ itoa bd')))
        have e : itoa n ++ ([42] ++ textB t ++ [32] ++ (numsB l m ++ ((if sc' = true then [60, 32] else [60, 61, 32]) ++ itoa bd'))) = numsB (t :: l) (n :: m) ++ (if sc' = true then [60, 32] else [60, 61, 32]) ++ itoa bd' := by simp [numsB, numB]
        rw [e] at hh
        revert this hh
        cases numsB (t :: l) (n :: m) ++ (if sc' = true then [60, 32] else [60, 61, 32]) ++ itoa bd' with
        | nil => intro h; cases h
        | cons c r => exact fun h1 h2 => low_dig h1 h2
  · exfalso
    rw [atomB_sum h1, atomB_eq h2] at h
    obtain ⟨_, _, _, q4, q5⟩ := two h1 hx
    have := text_head (right_named (ry.1 h2).1) ([61] ++ textB (.mk b' bs'))
    dsimp only at h
    rw [← List.append_assoc, ← h] at this
    cases ts with
    | nil => simp at q5
    | cons t l => cases ns with
      | nil => simp at q4
      | cons n m =>
        have hh := itoa_head n ([42] ++ textB t ++ [32] ++ (numsB l m ++ ((if sc = true then [60, 32] else [60, 61, 32]) ++ itoa bd)))
        have e : itoa n ++ ([42] ++ textB t ++ [32] ++ (numsB l m ++ ((if sc = true then [60, 32] else [60, 61, 32]) ++ itoa bd))) = numsB (t :: l) (n :: m) ++ (if sc = true then [60, 32] else [60, 61, 32]) ++ itoa bd := by simp [numsB, numB]
        rw [e] at hh
        revert this hh
        cases numsB (t :: l) (n :: m) ++ (if sc = true then [60, 32] else [60, 61, 32]) ++ itoa bd with
        | nil => intro h; cases h
        | cons c r => exact fun h1 h2 => low_dig h1 h2
  · rw [atomB_sum h1, atomB_sum h2] at h
    obtain ⟨p1, p2, p3, p4, p5⟩ := two h1 hx
    obtain ⟨q1, q2, q3, q4, q5⟩ := two h2 hy
    dsimp only at h
    rw [List.append_assoc, List.append_assoc] at h
    have o : ∀ (sc : Bool) (r : List UInt8), opens (fun c => decide (c = 60)) ((if sc = true then [60, 32] else [60, 61, 32]) ++ r) = true := fun sc r => by cases sc <;> rfl
    obtain ⟨e1, e2, e3⟩ := nums_split (fun t ht => right_named (rx.2 h1 t ht)) (fun t ht => right_named (ry.2 h2 t ht)) p4 q4 (o sc _) (o sc' _) h
    have e4 : sc = sc' ∧ itoa bd = itoa bd' := by
      cases sc <;> cases sc'
      · refine ⟨rfl, ?_⟩; simpa using e3
      · simp at e3
      · simp at e3
      · refine ⟨rfl, ?_⟩; simpa using e3
    have e5 : itoa bd ++ [] = itoa bd' ++ [] := by rw [e4.2]
    have e6 := (itoa_split rfl rfl e5).1
    have p2 := noneT_eq p2
    have p3 := noneT_eq p3
    have q2 := noneT_eq q2
    have q3 := noneT_eq q3
    rw [p1, q1, p2, p3, q2, q3, e1, e2, e4.1, e6]
/-- What a reader hands back: the right thing with the text, if there is one. -/
noncomputable def rd {α : Type} (R : α → Bool) (T : α → List UInt8) (z : α) (s : List UInt8) : α × Bool := by
  classical exact if h : ∃ a, R a = true ∧ T a = s then (Classical.choose h, true) else (z, false)
section
variable {α : Type} {R : α → Bool} {T : α → List UInt8} {z : α} {s : List UInt8}
end
end Pl

/-
  The codes' contracts: the law that atoms are compared exactly. No condition.
-/
set_option linter.unusedVariables false
set_option linter.unusedSimpArgs false
set_option maxRecDepth 100000
namespace Cg
open Go Go.Proofs Pl
theorem tx_nil {ok : Bool} {l : List UInt8} (h : ¬ (tx ok l).toList = []) : ok = true := by
  cases ok with
  | true => rfl
  | false => exact absurd (by rw [tx_no rfl, ByteArray.toList, ByteArray.toList.loop]; simp [mkB, ByteArray.size]) h
theorem text_same {x y : Atm} (h1 : ¬ (tx (atomRight x) (atomB x)).toList = []) (h2 : ¬ (tx (atomRight y) (atomB y)).toList = []) :
    decide (x = y) = ((tx (atomRight x) (atomB x)).toList == (tx (atomRight y) (atomB y)).toList) := by
  have r1 := tx_nil h1
  have r2 := tx_nil h2
  rw [Bool.eq_iff_iff, decide_eq_true_eq, beq_iff_eq, tl_inj, tx_yes r1, tx_yes r2, mkB_inj]
  exact ⟨fun h => by rw [h], fun h => atomB_inj r1 r2 h⟩
set_option maxHeartbeats 8000000 in
theorem g_DrawAtomSame (b : List Int) (h1 : Sz b) (h2 : Byt b) : GoalW Tryd.prog [K_l16Open, K_l4Sig, K_l6Some, K_l6Copy, K_pick] ([]) K_DrawAtomSame.1 K_DrawAtomSame.2 (b) := GoalW.of (vc_DrawAtomSame b) (by
  simp (maxSteps := 2000000) [-List.getD_eq_getElem?_getD, -List.mem_cons, -Bool.forall_bool, -Bool.exists_bool, and_assoc, peta, tl_inj, ex_1, ex_2, ex_3, ex_4, ex_5, ex_6, ex_7, ex_8, ex_9, ey_2, ey_3, ey_4, ey_5, ey_6, ey_7, ey_8, ey_9]
  exact ⟨h1, h2, fun y hr => ⟨hr.to (by omega) (by omega), fun s hs => ⟨hr.to (by omega) (by omega), hs, fun kd av ak bv bk ms ts bd sc q ha q1 q2 => ⟨at_sm ha, hr.to (by omega) (by omega), fun z _ _ => ⟨fun _ =>
    ⟨kd, av, ak, bv, bk, ms, ts, bd, sc, ha, kd, av, ak, bv, bk, ms, ts, bd, !sc, ha, rfl, rfl, rfl, rfl, rfl, rfl, rfl, rfl, rfl, rfl, rfl, rfl, rfl, rfl, rfl, rfl, rfl, (Bool.not_not _).symm⟩,
    fun _ => ⟨fun _ => ⟨kd, av, ak, bv, bk, ms, ts, bd, sc, ha, kd, av, ak, bv, bk, ms, ts, IntKind.i64.wrap (bd.tdiv 2), sc, ha, rfl, rfl, rfl, rfl, rfl, rfl, rfl, rfl, rfl, rfl, rfl, rfl, rfl, rfl, rfl, rfl, rfl, rfl⟩,
    fun _ => ⟨fun _ => ⟨hr.to (by omega) (by omega), hs, fun kd' av' ak' bv' bk' ms' ts' bd' sc' q' ha' _ _ => ⟨kd, av, ak, bv, bk, ms, ts, bd, sc, ha, kd', av', ak', bv', bk', ms', ts', bd', sc', ha', rfl, rfl, rfl, rfl, rfl, rfl, rfl, rfl, rfl, rfl, rfl, rfl, rfl, rfl, rfl, rfl, rfl, rfl⟩⟩,
    fun _ => ⟨kd, av, ak, bv, bk, ms, ts, bd, sc, ha, kd, av, ak, bv, bk, ms, ts, bd, sc, ha, rfl, rfl, rfl, rfl, rfl, rfl, rfl, rfl, rfl, rfl, rfl, rfl, rfl, rfl, rfl, rfl, rfl, rfl⟩⟩⟩⟩⟩⟩⟩⟩)
theorem k_DrawAtomSame : SoundC Tryd.prog K_DrawAtomSame.1 K_DrawAtomSame.2 := sound_ofW hm (((((CtxOK.nil.and k_pick).and k_l6Copy).and k_l6Some).and k_l4Sig).and k_l16Open) (fun (b : List Int) => []) (by kernel_rfl) fun (b : List Int) hb => g_DrawAtomSame b hb.1 hb.2
set_option maxHeartbeats 8000000 in
theorem g_yAtomSame (b : List Int) (hb : Byt b) : GoalW Tryd.prog [K_DrawAtomSame, K_iAtomSame, K_sAtomSame, K_iAtomText] ([]) K_yAtomSame.1 K_yAtomSame.2 (b) := GoalW.of (vc_yAtomSame b) (by
  simp (maxSteps := 2000000) [-List.getD_eq_getElem?_getD, -List.mem_cons, -Bool.forall_bool, -Bool.exists_bool, and_assoc, peta, tl_inj, ex_1, ex_2, ex_3, ex_4, ex_5, ex_6, ex_7, ex_8, ex_9, ey_2, ey_3, ey_4, ey_5, ey_6, ey_7, ey_8, ey_9]
  intro hl
  refine ⟨by omega, hb, fun k a as_ c cs ts ns bd sc k' a' as' c' cs' ts' ns' bd' sc' hx hy => ?_⟩
  refine ⟨at_sm hx, at_sm hy, ⟨fun ⟨e1, e2, e3, e4, e5, e6, e7, e8, e9⟩ => ⟨e1.symm, e2.symm, e3.symm, e4.symm, e5.symm, e6.symm, e7.symm, e8.symm, e9.symm⟩, fun ⟨e1, e2, e3, e4, e5, e6, e7, e8, e9⟩ => ⟨e1.symm, e2.symm, e3.symm, e4.symm, e5.symm, e6.symm, e7.symm, e8.symm, e9.symm⟩⟩, fun _ => ⟨at_sm hx, at_sm hy, fun n1 n2 => ?_⟩⟩
  have key := text_same n1 n2
  rw [← key, Bool.eq_iff_iff]
  simp only [Bool.and_eq_true, decide_eq_true_eq, Prod.mk.injEq, and_assoc])
theorem k_yAtomSame : SoundC Tryd.prog K_yAtomSame.1 K_yAtomSame.2 := sound_ofW hm ((((CtxOK.nil.and k_iAtomText).and k_sAtomSame).and k_iAtomSame).and k_DrawAtomSame) (fun (b : List Int) => []) (by kernel_rfl) fun (b : List Int) hb => g_yAtomSame b hb
end Cg

/-
  The listed tables: what the row's condition gives the machine. No condition.
-/
set_option linter.unusedVariables false
namespace Go.Proofs.YtkajadgfafpncaaDoor
open Go
def laidL : List (String × DataW Unit) := [("math/bits.deBruijn32tab", Rows.laid_math_bits_deBruijn32tab), ("math/bits.deBruijn64tab", Rows.laid_math_bits_deBruijn64tab), ("internal/strconv.uint64pow10", Rows.laid_internal_strconv_uint64pow10)]
theorem door_met (os : Os) (args : Array Value) : laidMetH Tryd.prog laidL ((World.doorLaid Tryd.prog 24 os).forCall (fun _ _ => 0) ⟨#[], args, []⟩).memory :=
  laidMetH_of_parts3 (fuel := 8) (laidMet_of_run' 8 (by kernel_rfl) (by kernel_rfl)) (by kernel_rfl) (by kernel_rfl)
theorem tab_laid {W : World} (h : laidMetH Tryd.prog laidL W) : Go.Lib.TabIs Tryd.prog W "internal/strconv.uint64pow10" .u64 Go.Lib.pow10Tab := by
  rw [MakeChecks.laidMetH_plain _ _ _ (by kernel_rfl)] at h
  have h2 := laidMet.filter (fun x => x.1 == "internal/strconv.uint64pow10") h
  have h3 : laidMet Tryd.prog (("internal/strconv.uint64pow10", Go.Lib.tabData .u64 Go.Lib.pow10Tab) :: []) W := by
    have e : (laidL.filter fun x => x.1 == "internal/strconv.uint64pow10") = ("internal/strconv.uint64pow10", Go.Lib.tabData .u64 Go.Lib.pow10Tab) :: [] := by rfl
    rw [e] at h2
    exact h2
  exact Go.Lib.tabIs_of_head (show Tryd.prog.globalNamed "internal/strconv.uint64pow10" = some 0 by kernel_rfl) (t := 189) (by kernel_rfl) Tryd.underlying189 Tryd.underlying182 (by kernel_rfl) (by kernel_rfl) h3
theorem gl_laid {W : World} (h : laidMetH Tryd.prog laidL W) : Cg.Gl (fun b => b < W.heap.size) W := fun g hg => by
  rw [show Cg.globs = [(0, fun c => c = ((List.range 20).map fun i => Value.int .u64 ((10 ^ i : Nat) : Int)).toArray)] from rfl, List.mem_singleton] at hg
  subst hg
  have ht := tab_laid h
  unfold Go.Lib.TabIs World.var? at ht
  rw [show Tryd.prog.globalNamed "internal/strconv.uint64pow10" = some 0 by kernel_rfl, Option.bind_some] at ht
  dsimp only
  split at ht
  · rename_i c T fr hc
    refine ⟨?_, c, T, fr, hc, ?_⟩
    · exact (Array.getElem?_eq_some_iff.1 hc).1
    · rw [Option.some.inj ht]
      unfold Go.Lib.pow10Tab
      rw [List.map_map]
      rfl
  · cases ht
end Go.Proofs.YtkajadgfafpncaaDoor
