/-
  The codes' contracts: drawn clause sets, the rest. No condition.
-/
import Derived.Test.YtgobdkgdhmkegaaDrawOk
import Derived.Test.YtgobdkgdhmkegaaDrawLaw
set_option linter.unusedVariables false
set_option linter.unusedSimpArgs false
set_option maxRecDepth 100000
namespace Cg
open Go Go.Proofs


theorem Rd.to {m m' : Int} {b : List Int} {p p' : Int} (h : Rd m b p) (h1 : 0 ≤ p') (h2 : p' ≤ m') : Rd m' b p' := ⟨h.1, h.2.1, h1, h2⟩
theorem Rds.two {v w : List Int} {a b : AV} (h1 : Is a (ints v)) (h2 : Is b (ints w)) : Rds 1 eII [] 2 (rowsCell [[a], [b]]) [v, w] := ⟨rfl, fun i hi j hj => by
  match i, j, hi, hj with
  | 0, 0, _, _ => exact h1
  | 1, 0, _, _ => exact h2⟩
theorem Rds.one {v : List Int} {a : AV} (h1 : Is a (ints v)) : Rds 1 eII [] 1 (rowsCell [[a]]) [v] := ⟨rfl, fun i hi j hj => by
  match i, j, hi, hj with
  | 0, 0, _, _ => exact h1⟩

theorem k_l10Cnf : SoundC Try.prog K_l10Cnf.1 K_l10Cnf.2 := sound_of hm (((((CtxOK.nil.and k_sClauseOk).and k_sClauseOf).and k_l10Marks).and k_num).and k_pick) (fun (b, p) => A_l10Cnf b p) (by kernel_rfl) fun (b, p) hb => cast (vc_l10Cnf b p) (by
  have hr : Rd 137438953472 b p := hb
  obtain ⟨g1, g2, g3, g4⟩ : Rd 137438953472 b p := hb
  simp [-List.getD_eq_getElem?_getD, -List.mem_cons, -Bool.forall_bool, -Bool.exists_bool, and_assoc, peta, tl_inj, ex_1, ex_2, ex_3, ex_4, ex_5, ex_6, ex_7, ex_8, ex_9, ey_2, ey_3, ey_4, ey_5, ey_6, ey_7, ey_8, ey_9]
  refine ⟨hr.to (by omega) (by omega), fun y hy => ⟨hr.to (by omega) (by omega), fun z hz => ⟨?_, fun k m cs q hk h1 h2 h3 h4 h5 => ⟨fun hlt => ?_, fun hge => ?_⟩⟩⟩⟩
  · simp at hy hz
    exact ⟨z, by omega, y, [], by simp; omega, by omega, by simp, by omega, by omega, rfl, rfl, rfl⟩
  · refine ⟨hr.to (by omega) (by omega), fun w hw => ⟨hr.to (by omega) (by omega), by simp at hw; omega, fun l q' hl h6 h7 => ?_⟩⟩
    have hlen := Pl.clauseOf_len l
    exact ⟨by omega, fun _ => ⟨by omega, fun _ => ⟨by omega, k - 1, by omega, m, cs ++ [(Pl.clauseOf l).1], by simp; omega, h2, fun x hx => by
        rcases List.mem_append.1 hx with hx | hx
        · exact h3 x hx
        · simp at hx; rw [hx]; omega, by omega, by omega, by omega, wrap_small (by omega) (by omega), rfl, by simp, intss_push⟩,
        fun _ => ⟨k - 1, by omega, m, cs, by omega, h2, h3, by omega, by omega, by omega, wrap_small (by omega) (by omega), rfl, rfl, .inr rfl⟩⟩,
      fun _ => ⟨k - 1, by omega, m, cs, by omega, h2, h3, by omega, by omega, by omega, wrap_small (by omega) (by omega), rfl, rfl, .inr rfl⟩⟩
  · have hk0 : k = 0 := by omega
    have hs : ∀ (n : Int) (l : List (List Int)), n ≤ 61 → l.length ≤ 100 → (∀ x ∈ l, x.length ≤ 100) → Sm (n, l) := fun n l a b c => ⟨a, b, c⟩
    refine ⟨hr.to (by omega) (by omega), fun y hy1 hy2 => ⟨fun _ => ⟨hr.to (by omega) (by omega), fun w hw => ⟨hs _ _ (by simp at hw; omega) (by omega) h3, by omega, by omega⟩⟩, fun _ => ⟨fun _ => ⟨by omega, m, cs ++ [[2, 1], [0]], hs _ _ (by omega) (by simp; omega) (fun x hx => by
        rcases List.mem_append.1 hx with hx | hx
        · exact h3 x hx
        · simp at hx; rcases hx with rfl | rfl <;> simp), by omega, by omega, rfl, ((Rds.cel EncN.eII cs).join (Rds.two (ints_lit2.2 rfl) (ints_lit1.2 rfl))).is⟩,
      fun _ => ⟨hs _ _ (by omega) (by omega) h3, by omega, by omega⟩⟩⟩⟩)

theorem k_DrawCnfIs : SoundC Try.prog K_DrawCnfIs.1 K_DrawCnfIs.2 := sound_of hm (((CtxOK.nil.and k_l10Vals).and k_l10Cnf).and k_l16Open) (fun _ => []) (by kernel_rfl) fun (b : List Int) hb => cast (vc_DrawCnfIs b) (by
  obtain ⟨h1, h2⟩ : Sz b ∧ Byt b := hb
  simp [-List.getD_eq_getElem?_getD, -List.mem_cons, -Bool.forall_bool, -Bool.exists_bool, and_assoc, peta, tl_inj, ex_1, ex_2, ex_3, ex_4, ex_5, ex_6, ex_7, ex_8, ex_9, ey_2, ey_3, ey_4, ey_5, ey_6, ey_7, ey_8, ey_9]
  exact ⟨h1, h2, fun y hr => ⟨hr.to (by omega) (by omega), fun a cs q hs h3 h4 => ⟨hr.to (by omega) (by omega), Int.le_trans hs.1 (by decide), fun v q' h5 h6 h7 => ⟨hs, h5⟩⟩⟩⟩)

theorem Sm.len {a : Int} {l : List (List Int)} (h : Sm (a, l)) : a ≤ 61 ∧ l.length ≤ 100 ∧ ∀ x ∈ l, x.length ≤ 100 := h
theorem Sm.szC {c : Pl.Cnf} (h : Sm c) : SzC c := ⟨by have := h.2.1; show _ ≤ _; omega, fun x hx => by have := h.2.2 x hx; show _ ≤ _; omega⟩

theorem k_DrawCnfUnits : SoundC Try.prog K_DrawCnfUnits.1 K_DrawCnfUnits.2 := sound_of hm ((((CtxOK.nil.and k_l10Marks).and k_num).and k_l10Cnf).and k_l16Open) (fun _ => []) (by kernel_rfl) fun (b : List Int) hb => cast (vc_DrawCnfUnits b) (by
  obtain ⟨h1, h2⟩ : Sz b ∧ Byt b := hb
  simp [-List.getD_eq_getElem?_getD, -List.mem_cons, -Bool.forall_bool, -Bool.exists_bool, and_assoc, peta, tl_inj, ex_1, ex_2, ex_3, ex_4, ex_5, ex_6, ex_7, ex_8, ex_9, ey_2, ey_3, ey_4, ey_5, ey_6, ey_7, ey_8, ey_9]
  exact ⟨h1, h2, fun y hr => ⟨hr.to (by omega) (by omega), fun a cs q hs h3 h4 => ⟨hr.to (by omega) (by omega), fun z hz => ⟨hr.to (by omega) (by omega), by simp at hz; omega, fun l q' hl h5 h6 => ⟨hs, by omega⟩⟩⟩⟩⟩)

theorem k_sCnfUnits : SoundC Try.prog K_sCnfUnits.1 K_sCnfUnits.2 := sound_of hm (((CtxOK.nil.and k_l10Units).and k_l10Right).and k_sCnfOk) (fun _ => []) (by kernel_rfl) fun (c, put) hl => cast (vc_sCnfUnits c put) (by
  obtain ⟨hl, hp⟩ : SzC c ∧ SzH put := hl
  obtain ⟨c1, c2⟩ := c
  simp [-List.getD_eq_getElem?_getD, -List.mem_cons, -Bool.forall_bool, -Bool.exists_bool, and_assoc, peta, tl_inj, ex_1, ex_2, ex_3, ex_4, ex_5, ex_6, ex_7, ex_8, ex_9, ey_2, ey_3, ey_4, ey_5, ey_6, ey_7, ey_8, ey_9]
  obtain ⟨l1, l2⟩ : SzL c2 := hl
  exact ⟨l1, l2, fun h => by simp [Pl.cnfUnits, h], fun h => ⟨by omega, fun h3 => by simp [Pl.cnfUnits, h, h3], fun h3 => ⟨h, l1, l2, hp, by simp [Pl.cnfUnits, h, h3], by simp [Pl.cnfUnits, h, h3]⟩⟩⟩)

theorem k_iCnfUnits : SoundC Try.prog K_iCnfUnits.1 K_iCnfUnits.2 := sound_of hm ((((CtxOK.nil.and k_units).and k_Contains).and k_isMark).and k_iCnfOk) (fun (c, put) => A_iCnfUnits c put) (by kernel_rfl) fun (c, put) hl => cast (vc_iCnfUnits c put) (by
  obtain ⟨hl, hp⟩ : SzC c ∧ SzH put := hl
  obtain ⟨c1, c2⟩ := c
  simp [-List.getD_eq_getElem?_getD, -List.mem_cons, -Bool.forall_bool, -Bool.exists_bool, and_assoc, peta, tl_inj, ex_1, ex_2, ex_3, ex_4, ex_5, ex_6, ex_7, ex_8, ex_9, ey_2, ey_3, ey_4, ey_5, ey_6, ey_7, ey_8, ey_9]
  obtain ⟨l1, l2⟩ : SzL c2 := hl
  refine ⟨l1, l2, fun h => by simp [Pl.cnfUnits, h], fun h => ?_⟩
  have hmany : 0 ≤ c1 ∧ c1 ≤ 60 := Pl.cnfOk_many h
  have no : Pl.rightI c1 [] put = false → (Pl.cnfUnits (c1, c2) put).fst = [] ∧ (Pl.cnfUnits (c1, c2) put).snd = false := fun h3 => by
    rw [Pl.right_same hmany] at h3; simp [Pl.cnfUnits, h, h3]
  refine ⟨⟨0, by simp, by simp, rfl⟩, fun k hk he => ⟨fun hlt => ?_, fun hge => ?_⟩⟩
  · rw [drop_get 0 hlt] at he
    simp only [Pl.rightI] at he
    refine ⟨hlt, fun h3 => no (by rw [he, h3]; rfl), fun h3 => ⟨hk, put.take k, (ints_take hk).2 rfl, by simp; omega, fun h4 => no ?_, fun h4 => ⟨hk, put.take k, (ints_take hk).2 rfl, by simp; omega, fun h5 => no ?_, fun h5 => ⟨k + 1, hlt, ?_, by omega, wrap_small (by omega) (by omega)⟩⟩⟩⟩
    · rw [he]; simp [List.contains_iff_mem, h4, -List.getD_eq_getElem?_getD]
    · have h6 : Pl.wneg (put.getD k 0) ∈ put.take k := by unfold Pl.wneg; rw [Int.zero_sub]; exact h5
      rw [he]; simp [List.contains_iff_mem, h6, -List.getD_eq_getElem?_getD]
    · have h6 : ¬ Pl.wneg (put.getD k 0) ∈ put.take k := by unfold Pl.wneg; rw [Int.zero_sub]; exact h5
      rw [he, Pl.take_succ_getD 0 hlt]
      simp [List.contains_iff_mem, h3, h4, h6, -List.getD_eq_getElem?_getD]
  · rw [drop_end (by omega)] at he
    have hr : Pl.rightS c1 [] put = true := by rw [← Pl.right_same hmany, he]; rfl
    have e : Pl.unitsI c2 put = Pl.unitsS c2 put := Pl.units_put (c := (c1, c2)) h hr
    rw [e]
    exact ⟨⟨c1, h⟩, l1, l2, hp, by simp [Pl.cnfUnits, h, hr], by simp [Pl.cnfUnits, h, hr]⟩)
end Cg
