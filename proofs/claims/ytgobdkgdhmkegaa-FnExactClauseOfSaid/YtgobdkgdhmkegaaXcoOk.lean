/-
  The codes' contracts: rows of numbers that are marked, and the law that clauses made of lists are exact. No condition.
-/
import Derived.Test.YtgobdkgdhmkegaaXcoVc
import Derived.Test.YtgobdkgdhmkegaaSrtOk
set_option linter.unusedVariables false
set_option linter.unusedSimpArgs false
set_option maxRecDepth 100000
namespace Pl
@[simp] theorem seqI_len (k : Int) (n : Nat) : (seqI k n).length = n := by unfold seqI; simp
theorem seqI_succ (k : Int) (n : Nat) : seqI k (n + 1) = seqI k n ++ [k + n] := by unfold seqI; rw [List.range_succ, List.map_append]; rfl
@[simp] theorem heldI_seq (k : Int) (n : Nat) : heldI (seqI k n) k = k + n := by unfold heldI; rw [seqI_len, if_pos rfl]
theorem seqI_get {k : Int} {n x : Nat} (h : x < n) : (seqI k n).getD x 0 = k + x := by unfold seqI; simp [h]
end Pl
namespace Cg
open Go Go.Proofs

theorem k_toIntSO : SoundC Try.prog K_toIntSO.1 K_toIntSO.2 := sound_of hm CtxOK.nil A_toIntS (by kernel_rfl) fun (l : List Int) (hl : Sz l) => (by
  rw [← vc_toIntSO l]
  simp [-List.getD_eq_getElem?_getD, -List.mem_cons, -Bool.forall_bool, -Bool.exists_bool, and_assoc, peta, tl_inj, ex_1, ex_2, ex_3, ex_4, ex_5, ex_6, ex_7, ex_8, ex_9, ey_2, ey_3, ey_4, ey_5, ey_6, ey_7, ey_8, ey_9]
  refine ⟨by omega, by omega, ⟨0, by simp, List.replicate l.length 0, by simp, by simp, by simp, by simp, ints_make⟩, fun k b hk hb ht => ⟨fun hlt => ⟨hlt, by omega, k + 1, hlt, b.set k (l.getD k 0), by simp [hb], copy_step 0 hlt hb ht, by omega, by simp, wrap_succ hlt hl, ints_set⟩, fun hge => ?_⟩⟩
  have e := copy_end hge hb ht
  exact ⟨hb, .inr e⟩)
theorem k_CloneO : SoundC Try.prog K_CloneO.1 K_CloneO.2 := sound_of hm CtxOK.nil (fun _ => []) (by kernel_rfl) fun (l : List Int) (hl : SzH l) => (by
  replace hl : l.length ≤ 2147483648 := hl
  rw [← vc_CloneO l]
  simp [-List.getD_eq_getElem?_getD, -List.mem_cons, -Bool.forall_bool, -Bool.exists_bool, and_assoc, peta, tl_inj, ex_1, ex_2, ex_3, ex_4, ex_5, ex_6, ex_7, ex_8, ex_9, ey_2, ey_3, ey_4, ey_5, ey_6, ey_7, ey_8, ey_9]
  exact fun b h => ⟨h, fun _ => by omega⟩)
theorem k_iClauseOfO : SoundC Try.prog K_iClauseOfO.1 K_iClauseOfO.2 := sound_of hm (((((CtxOK.nil.and k_Compact).and k_SortFunc).and k_CloneO).and k_Contains).and k_isMark) (fun l => A_iClauseOfO l) (by kernel_rfl) fun (l : List Int) hl => (by
  have hl' : l.length ≤ 1073741824 := hl
  rw [← vc_iClauseOfO l]
  simp [-List.getD_eq_getElem?_getD, -List.mem_cons, -Bool.forall_bool, -Bool.exists_bool, and_assoc, peta, tl_inj, ex_1, ex_2, ex_3, ex_4, ex_5, ex_6, ex_7, ex_8, ex_9, ey_2, ey_3, ey_4, ey_5, ey_6, ey_7, ey_8, ey_9]
  have no : l.all (Pl.fineMark l) = false → (Pl.clauseOf l).fst = [] ∧ (Pl.clauseOf l).snd = false ∧ (Pl.clauseOf l).fst = [] := fun h => by rw [Pl.clauseOf_no h]; exact ⟨rfl, rfl, rfl⟩
  refine ⟨⟨0, by omega, rfl, rfl⟩, fun k hk he => ⟨fun hlt => ?_, fun hge => ?_⟩⟩
  · rw [drop_get 0 hlt, List.all_cons] at he
    have nf : Pl.fineMark l (l.getD k 0) = false → l.all (Pl.fineMark l) = false := fun h => by rw [he, h]; rfl
    refine ⟨hlt, fun h => no (nf (by unfold Pl.fineMark; rw [h]; rfl)), fun h => ⟨by omega, fun g => no (nf ?_), fun g => ⟨k + 1, hlt, ?_, by omega, Cg.wrap_small (by omega) (by omega)⟩⟩⟩
    · unfold Pl.fineMark Pl.wneg
      rw [Int.zero_sub, h]
      simp only [Bool.true_and, Bool.not_eq_false', List.contains_iff_mem]
      exact g
    · have : Pl.fineMark l (l.getD k 0) = true := by
        unfold Pl.fineMark Pl.wneg
        rw [Int.zero_sub, h]
        simp only [Bool.true_and, Bool.not_eq_true']
        cases hc : l.contains (IntKind.i64.wrap (-l.getD k 0)) with
        | false => rfl
        | true => exact absurd (List.contains_iff_mem.1 hc) g
      rw [he, this]; rfl
  · rw [drop_end (by omega)] at he
    refine ⟨l, by omega, rfl, .inr rfl, l, by omega, rfl, .inr rfl, fun y hp hs => ?_⟩
    have hlen := hp.length_eq
    have e := Pl.sort_clause he hp hs
    exact ⟨y, by omega, hlen, .inr rfl, by rw [e], (Pl.clauseOf_yes he).1, .inr rfl, _, .inr (by rw [e])⟩)
theorem k_sClauseOfF : SoundC Try.prog K_sClauseOfF.1 K_sClauseOfF.2 := k_sClauseOf.imf
theorem k_markIntS : SoundC Try.prog K_markIntS.1 K_markIntS.2 := sound_of hm CtxOK.nil (fun (l, r, k) => A_markIntS l r k) (by kernel_rfl) fun (l, r, k) hl => (by
  obtain ⟨h1, h2, h3⟩ : Sz l ∧ 0 ≤ k ∧ k ≤ 1099511627776 := hl
  rw [← vc_markIntS l r k]
  simp [-List.getD_eq_getElem?_getD, -List.mem_cons, -Bool.forall_bool, -Bool.exists_bool, and_assoc, peta, tl_inj, ex_1, ex_2, ex_3, ex_4, ex_5, ex_6, ex_7, ex_8, ex_9, ey_2, ey_3, ey_4, ey_5, ey_6, ey_7, ey_8, ey_9]
  refine ⟨⟨0, by omega, by omega, rfl, .inr (by simp [Pl.seqI])⟩, fun x hx => ⟨fun hlt => ⟨hlt, by omega, x + 1, by omega, by omega, by rw [wrap_small (by omega) (by omega)]; omega, wrap_succ hlt h1, ?_⟩, fun hge => ?_⟩⟩
  · have hll : (l ++ r).length = l.length + r.length := List.length_append
    have hL : x + (l.length + r.length - x) = (Pl.seqI k x ++ List.drop x (l ++ r)).length := by simp
    have e : Pl.seqI k (x + 1) ++ List.drop (x + 1) (l ++ r) = (Pl.seqI k x ++ List.drop x (l ++ r)).set x (k + x) := by
      rw [drop_get 0 (by omega : x < (l ++ r).length), List.set_append_right _ _ (by simp), Pl.seqI_len, Nat.sub_self, List.set_cons_zero, Pl.seqI_succ, List.append_assoc]
      rfl
    rw [hL, e]
    exact ints_set
  · have hx' : x = l.length := by omega
    subst hx'
    exact ⟨rfl, .inr (by rw [List.drop_left])⟩)
theorem k_heldIntS : SoundC Try.prog K_heldIntS.1 K_heldIntS.2 := sound_of hm CtxOK.nil (fun (l, k) => A_heldIntS l k) (by kernel_rfl) fun (l, k) hl => (by
  obtain ⟨h1, h2, h3⟩ : Sz l ∧ 0 ≤ k ∧ k ≤ 1099511627776 := hl
  rw [← vc_heldIntS l k]
  simp [-List.getD_eq_getElem?_getD, -List.mem_cons, -Bool.forall_bool, -Bool.exists_bool, and_assoc, peta, tl_inj, ex_1, ex_2, ex_3, ex_4, ex_5, ex_6, ex_7, ex_8, ex_9, ey_2, ey_3, ey_4, ey_5, ey_6, ey_7, ey_8, ey_9]
  refine ⟨⟨0, by omega, by simp [Pl.seqI], by omega, rfl⟩, fun x hx ht => ⟨fun hlt => ⟨hlt, fun hne => ?_, fun he => ⟨x + 1, by omega, ?_, by omega, by rw [wrap_small (by omega) (by omega)]; omega, wrap_succ hlt h1⟩⟩, fun hge => ?_⟩⟩
  · unfold Pl.heldI
    rw [if_neg fun e => hne (by rw [e]; exact Pl.seqI_get hlt)]
  · rw [Pl.take_succ_getD 0 hlt, ht, he, Pl.seqI_succ]
  · have hx' : x = l.length := by omega
    subst hx'
    rw [List.take_length] at ht
    unfold Pl.heldI
    rw [if_pos ht])
theorem k_xClauseOf : SoundC Try.prog K_xClauseOf.1 K_xClauseOf.2 := sound_of hm ((((((CtxOK.nil.and k_heldIntS).and k_markIntS).and k_eqIntS).and k_iClauseOfO).and k_sClauseOfF).and k_toIntSO) (fun _ => []) (by kernel_rfl) fun (l : List Int) hb => (by
  clear hb
  rw [← vc_xClauseOf l]
  simp [-List.getD_eq_getElem?_getD, -List.mem_cons, -Bool.forall_bool, -Bool.exists_bool, and_assoc, peta, tl_inj, ex_1, ex_2, ex_3, ex_4, ex_5, ex_6, ex_7, ex_8, ex_9, ey_2, ey_3, ey_4, ey_5, ey_6, ey_7, ey_8, ey_9]
  have hlen := Pl.clauseOf_len l
  have hC : ∀ y, Is (.sl (Pl.clauseOf l).fst.length 1 (cI ((Pl.clauseOf l).fst ++ y))) (ints (Pl.clauseOf l).fst) := fun y => (ints_take (by simp)).2 List.take_left
  have hM : ∀ y, Is (.sl (Pl.clauseOf l).fst.length 1 (cI (Pl.seqI 1 (Pl.clauseOf l).fst.length ++ y))) (ints (Pl.seqI 1 (Pl.clauseOf l).fst.length)) := fun y => (ints_take (by simp)).2 (List.take_left' (Pl.seqI_len _ _))
  have hl : Is (AV.sl l.length 1 (cI l)) (ints l) := (ints_take (Nat.le_refl _)).2 List.take_length
  have hh := Pl.heldI_seq 1 (Pl.clauseOf l).fst.length
  refine fun h => ⟨by omega, by omega, by omega, l, by omega, rfl, .inr rfl, fun y => ⟨_, hC y, by omega, rfl, fun _ => ⟨rfl, fun _ => ⟨by omega, Nat.le_refl _, l, hl, by omega, rfl, fun _ => ⟨l, by omega, rfl, ⟨[], .inr (by simp)⟩, by omega, fun _ =>
    ⟨_, hC y, by omega, rfl, fun _ => ⟨rfl, fun _ => ⟨(Pl.clauseOf l).fst, by omega, rfl, y, .inr rfl, by omega, _, hM y, by simp only [Pl.seqI_len]; omega, by rw [hh]; omega, fun _ => ⟨hh, fun _ => ⟨by omega, l, by omega, rfl, .inr rfl, fun y2 => ⟨_, hC y2, by omega, rfl, fun _ => ⟨rfl, fun _ => ⟨by omega, _, hM y, by simp only [Pl.seqI_len]; omega, by rw [hh]; omega, fun _ => hh⟩⟩⟩⟩⟩⟩⟩⟩⟩⟩⟩⟩⟩)
end Cg
