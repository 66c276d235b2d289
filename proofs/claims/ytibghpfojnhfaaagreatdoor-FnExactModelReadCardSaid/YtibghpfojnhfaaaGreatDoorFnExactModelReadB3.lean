/-
  What the law leans on, part 3. No condition.
-/
import Derived.Lib.LaidTab
import Derived.LaidSub
import Derived.LaidMore
import Derived.Lay
import Derived.MakeChecks
import Derived.Handed
import Derived.Stop.LaidErr
import Derived.Shelf.Vars
import Derived.LaidLaws
import Derived.Test.YtibghpfojnhfaaaGreatDoorRows
import Derived.Test.YtibghpfojnhfaaaGreatDoorFnExactModelReadB1
import Derived.Test.YtibghpfojnhfaaaGreatDoorFnExactModelReadB2
/-
  The codes' contracts: models that are marked, and the law that reading them is exact. No condition.
-/
set_option linter.unusedVariables false
set_option linter.unusedSimpArgs false
set_option maxRecDepth 100000
namespace Pl
open Go Cg
@[simp] theorem seqQ_len (k : Int) (n : Nat) : (seqQ k n).length = n := by unfold seqQ; simp
theorem seqQ_succ (k : Int) (n : Nat) : seqQ k (n + 1) = seqQ k n ++ [(k + 2 * n, k + 2 * n + 1)] := by unfold seqQ; rw [List.range_succ, List.map_append]; rfl
theorem seqQ_get {k : Int} {n x : Nat} (h : x < n) : (seqQ k n).getD x dQ = (k + 2 * x, k + 2 * x + 1) := by unfold seqQ; simp [h]
theorem sumR_take {l : Mdl} {x : Nat} (h : x < l.length) : sumR (l.take (x + 1)) = sumR (l.take x) + (3 + 2 * (l.getD x dR).2.1.length) := by
  induction l generalizing x with
  | nil => simp at h
  | cons r l ih =>
    cases x with
    | zero => simp [sumR]
    | succ x =>
      have := ih (x := x) (by simpa using h)
      simp only [List.take_succ_cons, sumR, List.getD_cons_succ, this]; omega
theorem sumR_le {l : Mdl} (x : Nat) : sumR (l.take x) ≤ sumR l := by
  induction l generalizing x with
  | nil => simp
  | cons r l ih =>
    cases x with
    | zero => simp [sumR]
    | succ x => have := ih x; simp only [List.take_succ_cons, sumR]; omega
@[simp] theorem mkR_len : ∀ (k : Int) (l : Mdl), (mkR k l).length = l.length
  | _, [] => rfl
  | k, r :: l => by simp [mkR, mkR_len]
/-- The marks of the element at a place. -/
def oneR (k : Int) (n : Nat) : Rw := (mtext k, seqQ (k + 1) n, (k + 1 + 2 * n, k + 2 + 2 * n))
theorem mkR_take {l : Mdl} {x : Nat} (k : Int) (h : x < l.length) : mkR k (l.take (x + 1)) = mkR k (l.take x) ++ [oneR (k + sumR (l.take x)) (l.getD x dR).2.1.length] := by
  induction l generalizing x k with
  | nil => simp at h
  | cons r l ih =>
    cases x with
    | zero => simp [mkR, sumR, oneR]
    | succ x =>
      have := ih (x := x) (k + 3 + 2 * r.2.1.length) (by simpa using h)
      have e : k + 3 + 2 * (r.2.1.length : Int) + (sumR (l.take x) : Int) = k + ((3 + 2 * r.2.1.length + sumR (l.take x) : Nat) : Int) := by omega
      simp only [List.take_succ_cons, mkR, sumR, List.getD_cons_succ, this, List.cons_append, e]
theorem mkR_sum : ∀ (k : Int) (l : Mdl), sumR (mkR k l) = sumR l
  | _, [] => rfl
  | k, r :: l => by simp only [mkR, sumR, seqQ_len, mkR_sum (k + 3 + 2 * r.2.1.length) l]
theorem mkR_idem : ∀ (k : Int) (l : Mdl), mkR k (mkR k l) = mkR k l
  | _, [] => rfl
  | k, r :: l => by simp only [mkR, seqQ_len, mkR_idem (k + 3 + 2 * r.2.1.length) l]
theorem mkR_pre : ∀ (k : Int) (l : Mdl) (n : Nat), (mkR k l).take n = mkR k (l.take n)
  | k, [], n => by simp [mkR]
  | k, r :: l, 0 => by simp [mkR]
  | k, r :: l, n + 1 => by simp [mkR, mkR_pre (k + 3 + 2 * r.2.1.length) l n]
theorem midR_len {l : Mdl} {x : Nat} (k : Int) (h : x ≤ l.length) : (mkR k (l.take x) ++ l.drop x).length = l.length := by simp; omega
theorem midR_get {l : Mdl} {x : Nat} (k : Int) (h : x < l.length) : (mkR k (l.take x) ++ l.drop x).getD x dR = l.getD x dR := by
  have h1 : (mkR k (l.take x)).length = x := by simp; omega
  simp [List.getD_eq_getElem?_getD, List.getElem?_append_right, h1, Nat.le_of_lt h]
theorem midR_set {l : Mdl} {x : Nat} (k : Int) (h : x < l.length) : mkR k (l.take (x + 1)) ++ l.drop (x + 1) = (mkR k (l.take x) ++ l.drop x).set x (oneR (k + sumR (l.take x)) (l.getD x dR).2.1.length) := by
  have h1 : (mkR k (l.take x)).length = x := by simp; omega
  have h2 : l.drop x = l.getD x dR :: l.drop (x + 1) := by rw [List.drop_eq_getElem_cons h]; simp [h]
  rw [mkR_take k h, List.set_append_right _ _ (by omega), h1, Nat.sub_self, h2, List.set_cons_zero, List.append_assoc]
  rfl
theorem get_setR {l : Mdl} {x : Nat} (h : x < l.length) (y : Rw) : (l.set x y).getD x dR = y := by simp [List.getD_eq_getElem?_getD, h]
theorem get_setR_ne {l : Mdl} {x i : Nat} (h : i ≠ x) (y : Rw) : (l.set x y).getD i dR = l.getD i dR := by simp [List.getD_eq_getElem?_getD, List.getElem?_set, Ne.symm h]
theorem heldR_yes {l : Mdl} {k : Int} (h : l = mkR k l) : heldR l k = k + sumR l := by unfold heldR; rw [if_pos h]
theorem heldR_no {l : Mdl} {k : Int} (h : ¬ l = mkR k l) : heldR l k = -1 := by unfold heldR; rw [if_neg h]
theorem mkR_at {l : Mdl} {k : Int} {x : Nat} (h : l = mkR k l) (hx : x < l.length) : l.getD x dR = oneR (k + sumR (l.take x)) (l.getD x dR).2.1.length := by
  have e1 : l.take (x + 1) = mkR k (l.take (x + 1)) := by rw [← mkR_pre, ← h]
  have e0 : l.take x = mkR k (l.take x) := by rw [← mkR_pre, ← h]
  rw [mkR_take k hx, take_more dR hx, ← e0] at e1
  have := List.append_cancel_left e1
  simpa using this
theorem mkR_sz {l : Mdl} {n : Nat} (h : ∀ y ∈ l, y.2.1.length ≤ n) : ∀ (k : Int), ∀ y ∈ mkR k l, y.2.1.length ≤ n := by
  induction l with
  | nil => intro k y hy; cases hy
  | cons r l ih =>
    intro k y hy
    rcases List.mem_cons.1 hy with rfl | hy
    · show (seqQ (k + 1) r.2.1.length).length ≤ n
      rw [seqQ_len]; exact h r List.mem_cons_self
    · exact ih (fun z hz => h z (List.mem_cons_of_mem _ hz)) _ y hy
theorem sumR_bound {l : Mdl} {n : Nat} (h : ∀ y ∈ l, y.2.1.length ≤ n) : sumR l ≤ l.length * (3 + 2 * n) := by
  induction l with
  | nil => exact Nat.zero_le _
  | cons r l ih =>
    have := h r List.mem_cons_self
    have := ih fun z hz => h z (List.mem_cons_of_mem _ hz)
    show 3 + 2 * r.2.1.length + sumR l ≤ (l.length + 1) * (3 + 2 * n)
    have e : (l.length + 1) * (3 + 2 * n) = l.length * (3 + 2 * n) + (3 + 2 * n) := Nat.succ_mul _ _
    rw [e]
    generalize l.length * (3 + 2 * n) = c at *
    omega
theorem modelRd_sz (s : ByteArray) : (modelReadI s).1.length ≤ 1000 ∧ ∀ y ∈ (modelReadI s).1, y.2.1.length ≤ 1000 := by
  rw [modelReadI_eq]
  cases h : (rd mRight modelB [] (bl' s)).2 with
  | false => rw [rd_zero h]; exact ⟨by decide, fun y hy => by cases hy⟩
  | true =>
    have q := model_facts (rd_ok h).1
    exact ⟨by have := q.1; omega, fun y hy => by have := (rowOk_iff.1 (q.2 y hy)).2.1; omega⟩
end Pl
namespace Cg
open Go Go.Proofs Pl
theorem IsX_rats {v : List Rt} : IsX (rats v) (rats v) := ⟨rfl, rfl, fun i hi j hj => EncN.eQ.self _ hj⟩
theorem beq_ne {i x : Nat} (h : i ≠ x) : Nat.beq i x = false := by cases e : Nat.beq i x with | false => rfl | true => exact absurd (beq_iff.1 e) h
theorem putQ {m m' : List Rt} {x n : Nat} {a b : Int} (hx : x < m.length) (hn : n = m.length) (hm : m' = m.set x (a, b)) : IsO (AObj.arr n 2 (storeC (storeC (cQ m) x 0 [i64 a]) x 1 [i64 b])) (arQ m') := by
  subst hm; subst hn
  refine ⟨rfl, .inr ⟨by rw [List.length_set], fun i hi j hj => ?_⟩⟩
  show Is _ (eQ ((m.set x (a, b)).getD i dQ) j)
  by_cases hix : i = x
  · subst hix
    have e : (m.set i (a, b)).getD i dQ = (a, b) := by simp [List.getD_eq_getElem?_getD, hx]
    rw [e]
    unfold storeC
    match j, hj with
    | 0, _ => simp only [beq_iff.2 rfl]; exact Is_i64.2 rfl
    | 1, _ => simp only [beq_iff.2 rfl]; exact Is_i64.2 rfl
  · have e : (m.set x (a, b)).getD i dQ = m.getD i dQ := by simp [List.getD_eq_getElem?_getD, List.getElem?_set, Ne.symm hix]
    rw [e]
    unfold storeC
    simp only [beq_ne hix, Bool.false_and, cond_false]
    exact EncN.eQ.self _ hj
theorem putR0 {m : Mdl} {x n : Nat} {t : ByteArray} (hx : x < m.length) (hn : n = m.length) : IsO (AObj.xarr n 4 fun (i' j' : Nat) => bif j'.blt 1 && i'.beq x then [st t].getD j' AV.any else eR (m.getD i' dR) j') (xrR (m.set x (t, (m.getD x dR).2))) := by
  subst hn
  refine ⟨rfl, by rw [List.length_set], fun i hi j hj => ?_⟩
  show IsX _ (eR ((m.set x (t, (m.getD x dR).2)).getD i dR) j)
  by_cases hix : i = x
  · subst hix
    rw [get_setR hx]
    match j, hj with
    | 0, _ => simp only [beq_iff.2 rfl]; exact IsX_st
    | 1, _ => exact IsX_rats
    | 2, _ => exact IsX_i64
    | 3, _ => exact IsX_i64
  · rw [get_setR_ne hix]
    match j, hj with
    | 0, _ => simp only [beq_ne hix]; exact IsX_st
    | 1, _ => exact IsX_rats
    | 2, _ => exact IsX_i64
    | 3, _ => exact IsX_i64
theorem putR23 {m m' : Mdl} {x n : Nat} {a b : Int} (hx : x < m.length) (hn : n = m.length) (hm : m' = m.set x ((m.getD x dR).1, (m.getD x dR).2.1, a, b)) : IsO (AObj.xarr n 4 fun (i' j' : Nat) => bif Nat.ble 3 j' && j'.blt 4 && i'.beq x then [i64 b].getD (j' - 3) AV.any else storeD (cR m) x 2 [i64 a] i' j') (xrR m') := by
  subst hm; subst hn
  refine ⟨rfl, by rw [List.length_set], fun i hi j hj => ?_⟩
  show IsX _ (eR ((m.set x ((m.getD x dR).1, (m.getD x dR).2.1, a, b)).getD i dR) j)
  by_cases hix : i = x
  · subst hix
    rw [get_setR hx]
    match j, hj with
    | 0, _ => exact IsX_st
    | 1, _ => exact IsX_rats
    | 2, _ => unfold storeD; simp only [beq_iff.2 rfl]; exact IsX_i64
    | 3, _ => simp only [beq_iff.2 rfl]; exact IsX_i64
  · rw [get_setR_ne hix]
    match j, hj with
    | 0, _ => exact IsX_st
    | 1, _ => exact IsX_rats
    | 2, _ => unfold storeD; simp only [beq_ne hix]; exact IsX_i64
    | 3, _ => unfold storeD; simp only [beq_ne hix]; exact IsX_i64
set_option maxHeartbeats 8000000 in
theorem g_markRatS (l : List Rt) (k : Int) (h1 : l.length ≤ 1000) (h2 : Mk1 k 0) : GoalW Tryz.prog [] (A_markRatS l k) K_markRatS.1 K_markRatS.2 ((l, k)) := GoalW.of (vc_markRatS l k) (by
  simp (maxSteps := 2000000) [-List.getD_eq_getElem?_getD, -List.mem_cons, -Bool.forall_bool, -Bool.exists_bool, and_assoc, peta, tl_inj, ex_1, ex_2, ex_3, ex_4, ex_5, ex_6, ex_7, ex_8, ex_9, ey_2, ey_3, ey_4, ey_5, ey_6, ey_7, ey_8, ey_9]
  obtain ⟨k1, k2⟩ := h2
  refine ⟨⟨0, Nat.zero_le _, by omega, rfl, .inr rfl⟩, fun x hx => ⟨fun hlt => ?_, fun hge => ?_⟩⟩
  · have hl : (seqQ k x ++ l.drop x).length = l.length := by simp; omega
    refine ⟨hlt, by omega, hlt, by omega, x + 1, hlt, by omega, by rw [wrap_small (by rw [wrap_small (by omega) (by omega)]; omega) (by rw [wrap_small (by omega) (by omega)]; omega), wrap_small (by omega) (by omega)]; omega, wrap_small (by omega) (by omega), ?_⟩
    refine putQ (by omega) (by simp) ?_
    have h2 : l.drop x = l.getD x dQ :: l.drop (x + 1) := by rw [List.drop_eq_getElem_cons hlt]; simp [hlt]
    rw [seqQ_succ, List.set_append_right _ _ (by simp), seqQ_len, Nat.sub_self, h2, List.set_cons_zero, List.append_assoc, wrap_small (by omega) (by omega)]
    rfl
  · have e : x = l.length := by omega
    subst e
    rw [List.drop_length, List.append_nil]
    exact ⟨rfl, .inr rfl⟩)
theorem k_markRatS : SoundC Tryz.prog K_markRatS.1 K_markRatS.2 := sound_ofW hm CtxOK.nil (fun ((l, k) : MqX) => A_markRatS l k) (by kernel_rfl) fun ((l, k) : MqX) hb => g_markRatS l k hb.1 hb.2
set_option maxHeartbeats 8000000 in
theorem g_heldRatS (l : List Rt) (k : Int) (h1 : l.length ≤ 1000) (h2 : Mk1 k 0) : GoalW Tryz.prog [] (A_heldRatS l k) K_heldRatS.1 K_heldRatS.2 ((l, k)) := GoalW.of (vc_heldRatS l k) (by
  simp (maxSteps := 2000000) [-List.getD_eq_getElem?_getD, -List.mem_cons, -Bool.forall_bool, -Bool.exists_bool, and_assoc, peta, tl_inj, ex_1, ex_2, ex_3, ex_4, ex_5, ex_6, ex_7, ex_8, ex_9, ey_2, ey_3, ey_4, ey_5, ey_6, ey_7, ey_8, ey_9]
  obtain ⟨k1, k2⟩ := h2
  refine ⟨⟨0, Nat.zero_le _, rfl, by omega, rfl⟩, fun x hx he => ⟨fun hlt => ?_, fun hge => ?_⟩⟩
  · have at' : l = seqQ k l.length → l.getD x dQ = (k + 2 * x, k + 2 * x + 1) := fun h => (congrArg (fun l => l.getD x dQ) h).trans (seqQ_get hlt)
    have no : ¬ l.getD x dQ = (k + 2 * x, k + 2 * x + 1) → -1 = heldQ l k := fun h => by unfold heldQ; rw [if_neg fun g => h (at' g)]
    rw [wrap_small (x := k + 2 * (x : Int) + 1) (by omega) (by omega)]
    refine ⟨hlt, fun h => no fun g => h (congrArg (fun y => y.1) g), fun ha => ⟨hlt, fun h => no fun g => h (congrArg (fun y => y.2) g), fun hb => ⟨x + 1, hlt, ?_, by omega, by rw [wrap_small (by omega) (by omega)]; omega, wrap_small (by omega) (by omega)⟩⟩⟩
    rw [take_more dQ hlt, he, seqQ_succ]
    congr 2
    exact Prod.ext ha hb
  · have e : x = l.length := by omega
    subst e
    rw [List.take_length] at he
    unfold heldQ
    rw [if_pos he])
theorem k_heldRatS : SoundC Tryz.prog K_heldRatS.1 K_heldRatS.2 := sound_ofW hm CtxOK.nil (fun ((l, k) : MqX) => A_heldRatS l k) (by kernel_rfl) fun ((l, k) : MqX) hb => g_heldRatS l k hb.1 hb.2
theorem k_markOneR : SoundE Tryz.prog Nm.laws_markRatS MrA (fun x => ⟨[.xsl 0 x.2.1 1 (x.1.getD x.2.1 dR).2.1.length, i64 x.2.2], [xrR x.1]⟩) (fun x => (x.1.getD x.2.1 dR).2.1.length ≤ 1000 ∧ Mk1 x.2.2 0 ∧ x.2.1 < x.1.length) Unit (fun _ _ => True)
    fun x _ => (i64 (x.2.2 + 2 * (x.1.getD x.2.1 dR).2.1.length), [.xarr x.1.length 4 (fillX (cR x.1) x.2.1 1 (rats (seqQ x.2.2 (x.1.getD x.2.1 dR).2.1.length)))]) := by
  have base : SoundE Tryz.prog Nm.laws_markRatS MqX (fun x => ⟨.osl 0 0 x.1.length :: [i64 x.2], [.arr x.1.length 2 (cQ x.1)]⟩) (fun x => x.1.length ≤ 1000 ∧ Mk1 x.2 0) Unit (fun _ _ => True)
      fun x _ => (i64 (x.2 + 2 * x.1.length), [.arr x.1.length 2 (cQ (seqQ x.2 x.1.length))]) := fun x hp S μ w vals hok hrel => by
    have := k_markRatS.2 x hp S μ w vals hok hrel
    refine this.mono fun e w' ⟨v, y, S', μ', h1, h2, h3, h4⟩ => ⟨v, y, S', μ', h1, h2, ?_, h4⟩
    have h3' : Evo S μ [arQ x.1] w S' μ' [arQ (seqQ x.2 x.1.length)] w' := h3
    have e : arQ (seqQ x.2 x.1.length) = AObj.arr x.1.length 2 (cQ (seqQ x.2 x.1.length)) := by
      show AObj.arr (seqQ x.2 x.1.length).length 2 _ = _
      rw [seqQ_len]
      rfl
    rw [e] at h3'
    exact h3'
  have := SoundE.at base (fun _ => rfl) (fun _ _ => rfl) (X' := MrA) (fun x => ((x.1.getD x.2.1 dR).2.1, x.2.2)) (fun x => x.1.length) (fun _ => 4) (fun x => x.2.1) (fun _ => 1) (fun x => cR x.1)
  intro x hp
  have q := this x ⟨⟨hp.1, hp.2.1⟩, hp.2.2, by omega, rfl⟩
  intro S μ w vals hok hrel
  refine (q S μ w vals hok hrel).mono fun e w' ⟨v, y, S', μ', h1, h2, h3, h4⟩ => ⟨v, y, S', μ', h1, trivial, ?_, h4⟩
  have h3' : Evo S μ [xrR x.1] w S' μ' [.xarr x.1.length 4 (fillX (cR x.1) x.2.1 1 (.sl (x.1.getD x.2.1 dR).2.1.length 2 (cQ (seqQ x.2.2 (x.1.getD x.2.1 dR).2.1.length))))] w' := h3
  have e : AV.sl (x.1.getD x.2.1 dR).2.1.length 2 (cQ (seqQ x.2.2 (x.1.getD x.2.1 dR).2.1.length)) = rats (seqQ x.2.2 (x.1.getD x.2.1 dR).2.1.length) := by
    show _ = AV.sl (seqQ x.2.2 (x.1.getD x.2.1 dR).2.1.length).length 2 _
    rw [seqQ_len]
    rfl
  rw [e] at h3'
  exact h3'
theorem k_markAtR : SoundC Tryz.prog K_markAtR.1 K_markAtR.2 := ⟨callable_of (by kernel_rfl), fun x hp S μ w vals hok hrel => (k_markOneR x hp S μ w vals hok hrel).mono fun e w' ⟨v, y, S', μ', h1, h2, h3, h4⟩ => ⟨v, y, S', μ', h1, h2, by
  obtain ⟨l, i, k⟩ := x
  have hi : i < l.length := hp.2.2
  generalize hy : (((l.getD i dR).1, seqQ k (l.getD i dR).2.1.length, (l.getD i dR).2.2) : Rw) = y'
  have q := Evo.xarr3 (c' := cR (l.set i y')) h3 fun i' hi' j hj => by
    show fillX (cR l) i 1 (rats (seqQ k (l.getD i dR).2.1.length)) i' j = eR ((l.set i y').getD i' dR) j
    by_cases e : i' = i
    · subst e
      rw [get_setR hi, ← hy]
      match j, hj with
      | 0, _ => rw [fillX_ne (fun h => by cases h.2)]; rfl
      | 1, _ => rw [fillX_at]; rfl
      | 2, _ => rw [fillX_ne (fun h => by cases h.2)]; rfl
      | 3, _ => rw [fillX_ne (fun h => by cases h.2)]; rfl
    · rw [fillX_ne (fun h => e h.1), get_setR_ne e]; rfl
  have e : xrR (l.set i y') = .xarr l.length 4 (cR (l.set i y')) := by
    show AObj.xarr (l.set i y').length 4 _ = _
    rw [List.length_set]
    rfl
  show Evo S μ [xrR l] w S' μ' [xrR (l.set i ((l.getD i dR).1, seqQ k (l.getD i dR).2.1.length, (l.getD i dR).2.2))] w'
  rw [hy, e]
  exact q, h4⟩⟩
set_option maxHeartbeats 8000000 in
theorem g_markRowS (l : Mdl) (k : Int) (h1 : SzR l) (h2 : Mk1 k (sumR l)) : GoalW Tryz.prog [K_markText, K_markAtR] (A_markRowS l k) K_markRowS.1 K_markRowS.2 ((l, k)) := GoalW.of (vc_markRowS l k) (by
  simp (maxSteps := 2000000) [-List.getD_eq_getElem?_getD, -List.mem_cons, -Bool.forall_bool, -Bool.exists_bool, and_assoc, peta, tl_inj, ex_1, ex_2, ex_3, ex_4, ex_5, ex_6, ex_7, ex_8, ex_9, ey_2, ey_3, ey_4, ey_5, ey_6, ey_7, ey_8, ey_9]
  obtain ⟨k1, k2⟩ := h2
  refine ⟨⟨0, Nat.zero_le _, by simp [sumR], rfl, xrR_self⟩, fun x hx => ⟨fun hlt => ?_, fun hge => ?_⟩⟩
  · have e1 := midR_get k hlt
    have e2 : (l.getD x dR).2.1.length ≤ 1000 := h1.2 _ (getD_mem dR hlt)
    have e3 := sumR_take hlt
    have e4 := sumR_le (l := l) (x + 1)
    have hM := midR_len k (Nat.le_of_lt hlt)
    have eS := midR_set k hlt
    rw [wrap_small (x := k + (sumR (l.take x) : Int) + 1) (by omega) (by omega)]
    generalize mkR k (l.take x) ++ l.drop x = M at *
    generalize hkx : k + (sumR (l.take x) : Int) = kx at *
    have hxM : x < M.length := by omega
    refine ⟨by omega, by omega, hlt, by omega, hlt, by omega, M.set x (mtext kx, (M.getD x dR).2), ?_⟩
    rw [get_setR hxM, e1]
    dsimp only
    have w2 : IntKind.i64.wrap (kx + 1 + 2 * ((l.getD x dR).2.1.length : Int) + 1) = kx + 2 + 2 * ((l.getD x dR).2.1.length : Int) := by rw [wrap_small (by omega) (by omega)]; omega
    rw [w2]
    refine ⟨by omega, by omega, by omega, by rw [List.length_set]; omega, rfl, by rw [← e1]; exact putR0 hxM (by omega), hlt, by rw [List.length_set]; omega, hlt, by rw [List.length_set]; omega, x + 1, hlt, by omega, by rw [wrap_small (by omega) (by omega)]; omega, wrap_small (by omega) (by omega), ?_⟩
    rw [eS]
    refine putR23 (by simp only [List.length_set]; omega) (by simp only [List.length_set]) ?_
    rw [get_setR (by rw [List.length_set]; omega), List.set_set, List.set_set]
    rfl
  · rw [List.take_of_length_le hge, List.drop_eq_nil_of_le hge, List.append_nil]
    exact ⟨rfl, xrR_self⟩)
theorem k_markRowS : SoundC Tryz.prog K_markRowS.1 K_markRowS.2 := sound_ofW hm ((CtxOK.nil.and k_markAtR).and k_markText) (fun ((l, k) : MrX) => A_markRowS l k) (by kernel_rfl) fun ((l, k) : MrX) hb => g_markRowS l k hb.1 hb.2
set_option maxHeartbeats 8000000 in
theorem g_heldRowS (l : Mdl) (k : Int) (h1 : SzR l) (h2 : Mk1 k (sumR l)) : GoalW Tryz.prog [K_markText, K_heldRatS] (A_heldRowS l k) K_heldRowS.1 K_heldRowS.2 ((l, k)) := GoalW.of (vc_heldRowS l k) (by
  simp (maxSteps := 2000000) [-List.getD_eq_getElem?_getD, -List.mem_cons, -Bool.forall_bool, -Bool.exists_bool, and_assoc, peta, tl_inj, ex_1, ex_2, ex_3, ex_4, ex_5, ex_6, ex_7, ex_8, ex_9, ey_2, ey_3, ey_4, ey_5, ey_6, ey_7, ey_8, ey_9]
  obtain ⟨k1, k2⟩ := h2
  refine ⟨⟨0, Nat.zero_le _, by simp [mkR], by simp [sumR], rfl⟩, fun x hx he => ⟨fun hlt => ?_, fun hge => ?_⟩⟩
  · have e2 : (l.getD x dR).2.1.length ≤ 1000 := h1.2 _ (getD_mem dR hlt)
    have e3 := sumR_take hlt
    have e4 := sumR_le (l := l) (x + 1)
    rw [wrap_small (x := k + (sumR (l.take x) : Int) + 1) (by omega) (by omega)]
    have no : ¬ (l.getD x dR = oneR (k + sumR (l.take x)) (l.getD x dR).2.1.length) → -1 = heldR l k := fun h => (heldR_no fun g => h (mkR_at g hlt)).symm
    have yes := mkR_take k hlt
    generalize hkx : k + (sumR (l.take x) : Int) = kx at *
    have hI : (l.getD x dR).2.1 = seqQ (kx + 1) (l.getD x dR).2.1.length → heldQ (l.getD x dR).2.1 (kx + 1) = kx + 1 + 2 * (l.getD x dR).2.1.length := fun h => by unfold heldQ; rw [if_pos h]
    have hQ : 0 ≤ heldQ (l.getD x dR).2.1 (kx + 1) → (l.getD x dR).2.1 = seqQ (kx + 1) (l.getD x dR).2.1.length := fun hpos => by
      by_cases h : (l.getD x dR).2.1 = seqQ (kx + 1) (l.getD x dR).2.1.length
      · exact h
      · unfold heldQ at hpos; rw [if_neg h] at hpos; omega
    refine ⟨hlt, by omega, by omega, fun hne => no fun h => hne (congrArg (fun y => y.1) h), fun hnm => ⟨hlt, by omega, by omega, by omega, fun hneg => no fun h => ?_, fun hpos => ?_⟩⟩
    · rw [hI (congrArg (fun y => y.2.1) h)] at hneg; omega
    have hseq := hQ hpos
    rw [hI hseq]
    have w2 : IntKind.i64.wrap (kx + 1 + 2 * ((l.getD x dR).2.1.length : Int) + 1) = kx + 2 + 2 * ((l.getD x dR).2.1.length : Int) := by rw [wrap_small (by omega) (by omega)]; omega
    rw [w2]
    refine ⟨hlt, fun hs => no fun h => hs (congrArg (fun y => y.2.2.1) h), fun ha => ⟨hlt, fun hs => no fun h => hs (congrArg (fun y => y.2.2.2) h), fun hb => ⟨x + 1, hlt, ?_, by omega, by rw [wrap_small (by omega) (by omega)]; omega, wrap_small (by omega) (by omega)⟩⟩⟩
    rw [yes, take_more dR hlt, ← he]
    congr 2
    exact Prod.ext hnm (Prod.ext hseq (Prod.ext ha hb))
  · rw [List.take_of_length_le hge] at he ⊢
    exact (heldR_yes he).symm)
theorem k_heldRowS : SoundC Tryz.prog K_heldRowS.1 K_heldRowS.2 := sound_ofW hm ((CtxOK.nil.and k_heldRatS).and k_markText) (fun ((l, k) : MrX) => A_heldRowS l k) (by kernel_rfl) fun ((l, k) : MrX) hb => g_heldRowS l k hb.1 hb.2
set_option maxHeartbeats 8000000 in
theorem g_markModel (l : Mdl) (k : Int) (h1 : SzR l) (h2 : Mk1 k (sumR l)) : GoalW Tryz.prog [K_markRowS] ([]) K_markModel.1 K_markModel.2 ((l, k)) := GoalW.of (vc_markModel l k) (by
  simp (maxSteps := 2000000) [-List.getD_eq_getElem?_getD, -List.mem_cons, -Bool.forall_bool, -Bool.exists_bool, and_assoc, peta, tl_inj, ex_1, ex_2, ex_3, ex_4, ex_5, ex_6, ex_7, ex_8, ex_9, ey_2, ey_3, ey_4, ey_5, ey_6, ey_7, ey_8, ey_9]
  exact ⟨l, h1.1, fun _ _ _ _ h => h1.2 _ h, h2.1, h2.2, rfl, xrR_self, rfl, xrR_self⟩)
theorem k_markModel : SoundC Tryz.prog K_markModel.1 K_markModel.2 := sound_ofW hm (CtxOK.nil.and k_markRowS) (fun ((l, k) : MrX) => []) (by kernel_rfl) fun ((l, k) : MrX) hb => g_markModel l k hb.1 hb.2
set_option maxHeartbeats 8000000 in
theorem g_heldModel (l : Mdl) (k : Int) (h1 : SzR l) (h2 : Mk1 k (sumR l)) : GoalW Tryz.prog [K_heldRowS] ([]) K_heldModel.1 K_heldModel.2 ((l, k)) := GoalW.of (vc_heldModel l k) (by
  simp (maxSteps := 2000000) [-List.getD_eq_getElem?_getD, -List.mem_cons, -Bool.forall_bool, -Bool.exists_bool, and_assoc, peta, tl_inj, ex_1, ex_2, ex_3, ex_4, ex_5, ex_6, ex_7, ex_8, ex_9, ey_2, ey_3, ey_4, ey_5, ey_6, ey_7, ey_8, ey_9]
  refine ⟨h1.1, fun _ _ _ _ h => h1.2 _ h, h2.1, h2.2, fun h => ?_⟩
  by_cases e : l = mkR k l
  · rw [heldR_yes e] at h; have := h2.1; omega
  · exact (heldR_no e).symm)
theorem k_heldModel : SoundC Tryz.prog K_heldModel.1 K_heldModel.2 := sound_ofW hm (CtxOK.nil.and k_heldRowS) (fun ((l, k) : MrX) => []) (by kernel_rfl) fun ((l, k) : MrX) hb => g_heldModel l k hb.1 hb.2
set_option maxHeartbeats 8000000 in
theorem g_xModelRead (s : ByteArray) : GoalW Tryz.prog [K_sModelRead, K_iModelRead, K_eqModel, K_markModel, K_heldModel] ([]) K_xModelRead.1 K_xModelRead.2 (s) := GoalW.of (vc_xModelRead s) (by
  simp (maxSteps := 2000000) [-List.getD_eq_getElem?_getD, -List.mem_cons, -Bool.forall_bool, -Bool.exists_bool, and_assoc, peta, tl_inj, ex_1, ex_2, ex_3, ex_4, ex_5, ex_6, ex_7, ex_8, ex_9, ey_2, ey_3, ey_4, ey_5, ey_6, ey_7, ey_8, ey_9]
  intro hs
  have hcost : costM (modelReadI s).1 ≤ 1048576 := by
    rw [modelReadI_eq]
    cases h : (rd mRight modelB [] (bl' s)).2 with
    | false => rw [rd_zero h]; decide
    | true => exact mRight_cost (rd_ok h).1
  have hsame : modelReadI s = modelReadS s := (modelReadI_eq s).trans (modelReadS_eq s).symm
  obtain ⟨z1, z2⟩ := modelRd_sz s
  rw [← hsame]
  generalize (modelReadI s).1 = g at *
  have hb := sumR_bound z2
  have hb2 := Nat.mul_le_mul_right (3 + 2 * 1000) z1
  have hI : Is (AV.sl g.length 4 (cR (mkR 1 g))) (mrows (mkR 1 g)) := by
    have := (mrows_take (l := mkR 1 g) (m := mkR 1 g) (n := g.length) (by rw [mkR_len]; exact Nat.le_refl _)).2 (List.take_of_length_le (by rw [mkR_len]; exact Nat.le_refl _))
    exact this
  have hH : heldR (mkR 1 g) 1 = 1 + (sumR g : Int) := by rw [heldR_yes (mkR_idem 1 g).symm, mkR_sum]
  have hm := fun a b c d h => mkR_sz z2 1 (a, b, c, d) h
  refine ⟨by omega, hcost, rfl, fun _ => ⟨rfl, fun _ => ⟨g, z1, fun _ _ _ _ h => z2 _ h, by omega, rfl, xrR_self, Nat.le_refl _, mkR 1 g, hI, by rw [mkR_len]; exact z1, hm, by rw [mkR_sum]; omega, by rw [hH]; omega, fun _ => ⟨hH, fun _ => ⟨by omega, hcost, rfl, fun _ => ⟨rfl, fun _ => ⟨Nat.le_refl _, mkR 1 g, hI, by rw [mkR_len]; exact z1, hm, by rw [mkR_sum]; omega, by rw [hH]; omega, fun _ => hH⟩⟩⟩⟩⟩⟩⟩)
theorem k_xModelRead : SoundC Tryz.prog K_xModelRead.1 K_xModelRead.2 := sound_ofW hm (((((CtxOK.nil.and k_heldModel).and k_markModel).and k_eqModel).and k_iModelRead).and k_sModelRead) (fun (s : ByteArray) => []) (by kernel_rfl) fun (s : ByteArray) hb => g_xModelRead s
end Cg

/-
  The listed tables and errors, and the shape of the world: what the row's condition gives the machine. No condition.
-/
set_option linter.unusedVariables false
namespace Go.Proofs.YtibghpfojnhfaaaGreatDoor
open Go
def laidL : List (String × DataW Unit) := [("math/bits.deBruijn32tab", Rows.laid_math_bits_deBruijn32tab), ("math/bits.deBruijn64tab", Rows.laid_math_bits_deBruijn64tab), ("internal/strconv.uint64pow10", Rows.laid_internal_strconv_uint64pow10), ("unicode/utf8.acceptRanges", Rows.laid_unicode_utf8_acceptRanges), ("strconv.ErrRange", Rows.laid_strconv_ErrRange), ("strconv.ErrSyntax", Rows.laid_strconv_ErrSyntax), ("unicode/utf8.first", Rows.laid_unicode_utf8_first)]
theorem door_met (os : Os) (args : Array Value) : laidMetH Tryz.prog laidL ((World.laidAll Tryz.prog os laidL).forCall (fun _ _ => 0) ⟨#[], args, []⟩).memory := by
  rw [MakeChecks.laidMetH_plain _ _ _ (by kernel_rfl)]
  exact laidMet_laidAll _ (by kernel_rfl) (by kernel_rfl)
theorem plain_laid {W : World} (h : laidMetH Tryz.prog laidL W) : laidMet Tryz.prog laidL W := by
  rw [MakeChecks.laidMetH_plain _ _ _ (by kernel_rfl)] at h
  exact h
theorem tab_laid {W : World} (h : laidMetH Tryz.prog laidL W) : Go.Lib.TabIs Tryz.prog W "internal/strconv.uint64pow10" .u64 Go.Lib.pow10Tab := by
  have h2 := laidMet.filter (fun x => x.1 == "internal/strconv.uint64pow10") (plain_laid h)
  have h3 : laidMet Tryz.prog (("internal/strconv.uint64pow10", Go.Lib.tabData .u64 Go.Lib.pow10Tab) :: []) W := by
    have e : (laidL.filter fun x => x.1 == "internal/strconv.uint64pow10") = ("internal/strconv.uint64pow10", Go.Lib.tabData .u64 Go.Lib.pow10Tab) :: [] := by rfl
    rw [e] at h2
    exact h2
  exact Go.Lib.tabIs_of_head (show Tryz.prog.globalNamed "internal/strconv.uint64pow10" = some 3 by kernel_rfl) (t := 193) (by kernel_rfl) Tryz.underlying193 Tryz.underlying175 (by kernel_rfl) (by kernel_rfl) h3
theorem star : "*" ++ "errors.errorString" = "*errors.errorString" := by decide
theorem rowES (u : TypeId) (h : Tryz.prog.typeName? 3 u = some "*errors.errorString") : u = 200 :=
  typeName_ptr_named (nm := "errors.errorString") (by rw [star]; kernel_rfl) (by kernel_rfl) (by decide) u (by rw [star]; exact h)
theorem err_var {W : World} (n : String) (g : Nat) (text : List UInt8) (h : laidMet Tryz.prog ((n, .iface "*errors.errorString" (.ptr (.agg [.lit (.string text)]))) :: []) W) (hg : Tryz.prog.globalNamed n = some g) (ht : (Tryz.prog.globals[g]?).map (·.type) = some 113) :
    ∃ c T fr, W.heap[g]? = some (.cells c T fr) ∧ ∃ ev, c[0]? = some ev ∧ (ev = .nilIface ∨ ∃ te pe, ev = .iface te pe) := by
  obtain ⟨a, s, h1, -, -, -⟩ := laid_sentinel h hg ht Tryz.underlying113 rowES Tryz.underlying200 Tryz.underlying202 rfl rfl Tryz.underlying9 (by kernel_rfl) (by kernel_rfl)
  unfold World.var? at h1
  rw [hg, Option.bind_some] at h1
  split at h1
  · rename_i c T fr hc
    have e := Option.some.inj h1
    subst e
    exact ⟨_, T, fr, hc, _, rfl, .inr ⟨_, _, rfl⟩⟩
  · cases h1
theorem gl_laid {W : World} (h : laidMetH Tryz.prog laidL W) (hsh : W.ShapedOpen Tryz.prog) : Cg.Gl (fun b => b < W.heap.size) W := fun g hg => by
  have lt : ∀ {g : Nat} {c : Array Value} {T : TypeId} {fr : Nat × Nat}, W.heap[g]? = some (.cells c T fr) → g < W.heap.size := fun h => (Array.getElem?_eq_some_iff.1 h).1
  unfold Cg.globs at hg
  rcases List.mem_cons.1 hg with rfl | hg
  · have ht := tab_laid h
    unfold Go.Lib.TabIs World.var? at ht
    rw [show Tryz.prog.globalNamed "internal/strconv.uint64pow10" = some 3 by kernel_rfl, Option.bind_some] at ht
    dsimp only
    split at ht
    · rename_i c T fr hc
      refine ⟨lt hc, c, T, fr, hc, ?_⟩
      rw [Option.some.inj ht]
      unfold Go.Lib.pow10Tab
      rw [List.map_map]
      rfl
    · cases ht
  rcases List.mem_cons.1 hg with rfl | hg
  · obtain ⟨m, hm⟩ := cell_of_shapedOpen_int (g := 0) (t := 3) (zero := #[.int .i64 0]) hsh (of_decide_eq_true (by kernel_rfl)) (by kernel_rfl) rfl (by kernel_rfl) (by kernel_rfl) Tryz.underlying3
    dsimp only
    unfold World.cell? at hm
    split at hm
    · rename_i c T fr hc
      refine ⟨lt hc, c, T, fr, hc, m, ?_⟩
      simpa using hm
    · cases hm
  rcases List.mem_cons.1 hg with rfl | hg
  · have h2 := laidMet.filter (fun x => x.1 == "strconv.ErrSyntax") (plain_laid h)
    have e : (laidL.filter fun x => x.1 == "strconv.ErrSyntax") = ("strconv.ErrSyntax", Rows.laid_strconv_ErrSyntax) :: [] := by rfl
    rw [e] at h2
    obtain ⟨c, T, fr, hc, h4⟩ := err_var "strconv.ErrSyntax" 1 _ h2 (by kernel_rfl) (by kernel_rfl)
    exact ⟨lt hc, c, T, fr, hc, h4⟩
  rcases List.mem_cons.1 hg with rfl | hg
  · have h2 := laidMet.filter (fun x => x.1 == "strconv.ErrRange") (plain_laid h)
    have e : (laidL.filter fun x => x.1 == "strconv.ErrRange") = ("strconv.ErrRange", Rows.laid_strconv_ErrRange) :: [] := by rfl
    rw [e] at h2
    obtain ⟨c, T, fr, hc, h4⟩ := err_var "strconv.ErrRange" 2 _ h2 (by kernel_rfl) (by kernel_rfl)
    exact ⟨lt hc, c, T, fr, hc, h4⟩
  · cases hg
/-- The wrap with a condition on the world, that hands on the world's shape. -/
theorem handed_and_shaped {H : Type} {enc : TypeId × Value → H} {a : Assume} {C : Checked} {os : Os} {f : FuncId} {fn : Func} {s : ChangeSpec} {conds : List PathCond} {apart fresh handsOn again : Bool} {X : World → Array Value → Prop}
    (hX : ∀ (w w' : World) (args : Array Value), w.heap = w'.heap → X w args → X w' args)
    (own : ownKnob C.prog.godebug = none) (started : os.Started) (noInit : C.prog.inits.idxOf? f = none) (hfn : C.prog.funcs[f]? = some fn)
    (witness : ∃ (w : World) (tape : Tape) (i : Input), w.os = os ∧ (w.forCall tape i).Shaped C.prog ∧ i.vars = [] ∧ Input.okWide C.prog (w.forCall tape i) .any w.heap.size f i ∧
      ((s.pre enc C.prog fn conds apart (w.forCall tape i).memory i.args ∧ X (w.forCall tape i).memory i.args) ∧ sizedMet enc C.prog fn (OpenSpec.ofChange s) apart (w.forCall tape i).memory i.args) ∧ a.holds C.prog (lone (Frame.enter C.prog f i.args .normal) [] (w.forCall tape i)))
    (contract : ∀ (W : World) (base : Nat) (args : Array Value) (ds gs : List (DataW H)) (before : List MemPlace),
      (∀ (j : Nat) t v, fn.params[j]? = some t → args[j]? = some v → Value.okWide C.prog W .any base t v) →
      DataW.Whole enc C.prog fn.params.toList s.vars apart W args.toList ds gs before →
      conds.all (PathCond.test C.prog ⟨fn.params.toList, ds, s.plain.varTypes C.prog, gs⟩) = true → X W args → W.ShapedOpen C.prog →
      Calls C.prog f args W fun e W' => ∃ v, e = .returned v ∧ s.post enc C.prog fn apart fresh handsOn again W args v W') :
    ReturnsInHanded a C os f .any (fun w args => (s.pre enc C.prog fn conds apart w args ∧ X w args) ∧ sizedMet enc C.prog fn (OpenSpec.ofChange s) apart w args) (s.post enc C.prog fn apart fresh handsOn again) := by
  refine returnsInHanded_of_calls own started noInit witness ?_
  intro w tape i _ hsh _ hok hpre hholds
  obtain ⟨_, _, _, fn', hfn', _, _, _, _, hval⟩ := hok
  have e : fn' = fn := Option.some.inj (hfn'.symm.trans hfn)
  subst e
  obtain ⟨⟨⟨ds, gs, before, hw, hc⟩, hx⟩, hz⟩ := hpre
  have hw' := DataW.Whole.of_heap (w' := w.forCall tape i) (by rfl) hw
  refine (contract (w.forCall tape i) w.heap.size i.args ds gs before hval hw' hc (hX _ _ _ (by rfl) hx) hsh).mono fun e W' ⟨v, he, hp⟩ => ?_
  subst he
  exact ChangeSpec.post_blind hp
end Go.Proofs.YtibghpfojnhfaaaGreatDoor
