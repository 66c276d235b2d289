/-
  The codes' contracts: laws of clauses made of lists. No condition.
-/
import Derived.Test.YtgobdkgdhmkegaaCofVc
import Derived.Test.YtgobdkgdhmkegaaSrtOk
import Derived.Test.YtgobdkgdhmkegaaCuOk
set_option linter.unusedVariables false
set_option linter.unusedSimpArgs false
set_option maxRecDepth 100000
namespace Pl
open Go Cg
theorem clauseOf_fine {l : List Int} : (clauseOf l).2 = true ↔ l.all (fineMark l) = true := by
  constructor
  · intro h
    cases h2 : l.all (fineMark l) with
    | true => rfl
    | false => rw [clauseOf_no h2] at h; cases h
  · exact fun h => (clauseOf_yes h).1
theorem clauseOf_bad (l : List Int) : (clauseOf l).2 = false → clauseOf l = ([], false) := fun h => clauseOf_no (by
  cases h2 : l.all (fineMark l) with
  | false => rfl
  | true => rw [clauseOf_fine.2 h2] at h; cases h)
theorem clause_mrk {l : List Int} (h : (clauseOf l).2 = true) : (∀ x ∈ (clauseOf l).1, Mrk x ∧ -x ∉ (clauseOf l).1) ∧ Asc (clauseOf l).1 ∧ ∀ z, z ∈ (clauseOf l).1 ↔ z ∈ l := by
  have hf := clauseOf_fine.1 h
  obtain ⟨_, c2, c3⟩ := clauseOf_yes hf
  refine ⟨fun x hx => ?_, c2, c3⟩
  have := (fine_iff l x).1 (List.all_eq_true.1 hf x ((c3 x).1 hx))
  exact ⟨this.1, fun h => this.2 ((c3 _).1 h)⟩
theorem clauseOf_again {l : List Int} (h : (clauseOf l).2 = true) : clauseOf (clauseOf l).1 = ((clauseOf l).1, true) := by
  obtain ⟨c1, c2, c3⟩ := clause_mrk h
  have hf : (clauseOf l).1.all (fineMark (clauseOf l).1) = true := List.all_eq_true.2 fun x hx => (fine_iff _ x).2 (c1 x hx)
  obtain ⟨d1, d2, d3⟩ := clauseOf_yes hf
  exact Prod.ext (asc_eq d2 c2 d3) d1
theorem asc_spec : ∀ {l : List Int} {last : Int}, Asc l → (∀ x ∈ l, Mrk x ∧ last < x.natAbs) → specLoop 60 last l = true
  | [], _, _, _ => by simp [specLoop]
  | x :: l, last, ha, hl => by
    obtain ⟨a1, a2⟩ := List.pairwise_cons.1 ha
    obtain ⟨h1, h2⟩ := hl x (List.mem_cons_self ..)
    simp only [specLoop]
    rw [absW_mrk h1, decide_eq_false (by omega), decide_eq_false (by omega)]
    exact asc_spec a2 fun y hy => ⟨(hl y (List.mem_cons_of_mem _ hy)).1, by have := a1 y hy; omega⟩
theorem clauseOf_ok {l : List Int} (h : (clauseOf l).2 = true) : implClause (clauseOf l).1 60 = true := by
  obtain ⟨c1, c2, _⟩ := clause_mrk h
  rw [clause_same]
  exact asc_spec c2 fun x hx => ⟨(c1 x hx).1, by have := (c1 x hx).1.1; omega⟩
theorem clauseIs_mem {l m : List Int} {v : List Bool} (h : ∀ z, z ∈ l ↔ z ∈ m) : clauseIs l v = clauseIs m v := by
  unfold clauseIs
  rw [Bool.eq_iff_iff, List.any_eq_true, List.any_eq_true]
  exact ⟨fun ⟨x, hx, e⟩ => ⟨x, (h x).1 hx, e⟩, fun ⟨x, hx, e⟩ => ⟨x, (h x).2 hx, e⟩⟩
theorem always_true {l : List Int} {v : List Bool} (h : (clauseOf l).2 = false) (hl : v.length ≤ 60) (hm : ∀ y ∈ l, y ≠ 0 ∧ -(v.length : Int) ≤ y ∧ y ≤ v.length) : clauseIs l v = true := by
  have hf : l.all (fineMark l) = false := by
    cases h2 : l.all (fineMark l) with
    | false => rfl
    | true => rw [clauseOf_fine.2 h2] at h; cases h
  obtain ⟨x, hx, hb⟩ := List.all_eq_false.1 hf
  obtain ⟨x0, x1, x2⟩ := hm x hx
  have hneg : -x ∈ l := Classical.byContradiction fun e => hb ((fine_iff l x).2 ⟨⟨x0, by omega, by omega⟩, e⟩)
  have h3 := lIs_neg (v := v) x0 x2 x1
  unfold clauseIs
  rw [List.any_eq_true]
  cases h4 : lIs x v with
  | true => exact ⟨x, hx, h4⟩
  | false => exact ⟨-x, hneg, by rw [h3, h4]; rfl⟩
end Pl
namespace Cg
open Go Go.Proofs
theorem k_l10ValsN : SoundC Try.prog K_l10ValsN.1 K_l10ValsN.2 := sound_of hm (CtxOK.nil.and k_pick) (fun (b, p, m) => A_l10Vals b p m) (by kernel_rfl) fun (b, p, m) hb => (by
  obtain ⟨hr, hn⟩ : Rd 274877906944 b p ∧ m ≤ 100 := hb
  rw [← vc_l10ValsN b p m]
  simp [-List.getD_eq_getElem?_getD, -List.mem_cons, -Bool.forall_bool, -Bool.exists_bool, and_assoc, peta, tl_inj, ex_1, ex_2, ex_3, ex_4, ex_5, ex_6, ex_7, ex_8, ex_9, ey_2, ey_3, ey_4, ey_5, ey_6, ey_7, ey_8, ey_9]
  obtain ⟨g1, g2, g3, g4⟩ := hr
  refine ⟨⟨0, [], rfl, .inr rfl, by omega, rfl, rfl, rfl⟩, fun k out q (hk : out.length = k) hc hq1 hq2 => ⟨fun hlt => ⟨⟨g1, g2, by omega, by omega⟩, fun v _ _ => ⟨by omega, k + 1, out ++ [v == 0], by simp [hk], by omega, by omega, by omega, by omega, by simp, by rw [Cg.wrap_small (by omega) (by omega)]; omega, bools_push⟩⟩,
    fun hge => ⟨⟨g1, g2, by omega, by omega⟩, fun v _ _ => ⟨fun _ => ⟨by omega, out ++ [true], by simp only [List.length_append, List.length_singleton]; omega, by omega, by omega, ((Rds.cel EncN.eB out).join (Rds.row (bools_row true))).is⟩, fun _ => ⟨by omega, by omega, by omega⟩⟩⟩⟩⟩)
theorem k_DrawClauseOf : SoundC Try.prog K_DrawClauseOf.1 K_DrawClauseOf.2 := sound_of hm (((CtxOK.nil.and k_l10Marks).and k_pick).and k_l16Open) (fun _ => []) (by kernel_rfl) fun (b : List Int) hb => (by
  obtain ⟨h1, h2⟩ : Sz b ∧ Byt b := hb
  rw [← vc_DrawClauseOf b]
  simp [-List.getD_eq_getElem?_getD, -List.mem_cons, -Bool.forall_bool, -Bool.exists_bool, and_assoc, peta, tl_inj, ex_1, ex_2, ex_3, ex_4, ex_5, ex_6, ex_7, ex_8, ex_9, ey_2, ey_3, ey_4, ey_5, ey_6, ey_7, ey_8, ey_9]
  exact ⟨h1, h2, fun y hy => ⟨hy.mono (by omega), fun k hk1 hk2 => ⟨hy.to (by omega) (by omega), by omega, fun v q hv _ _ => hv⟩⟩⟩)
theorem k_DrawClauseIs : SoundC Try.prog K_DrawClauseIs.1 K_DrawClauseIs.2 := sound_of hm ((((CtxOK.nil.and k_l10ValsN).and k_l10Marks).and k_pick).and k_l16Open) (fun _ => []) (by kernel_rfl) fun (b : List Int) hb => (by
  obtain ⟨h1, h2⟩ : Sz b ∧ Byt b := hb
  rw [← vc_DrawClauseIs b]
  simp [-List.getD_eq_getElem?_getD, -List.mem_cons, -Bool.forall_bool, -Bool.exists_bool, and_assoc, peta, tl_inj, ex_1, ex_2, ex_3, ex_4, ex_5, ex_6, ex_7, ex_8, ex_9, ey_2, ey_3, ey_4, ey_5, ey_6, ey_7, ey_8, ey_9]
  exact ⟨h1, h2, fun y hy => ⟨hy.mono (by omega), fun k hk1 hk2 => ⟨hy.to (by omega) (by omega), by omega, fun v q hv q1 q2 => ⟨hy.to (by omega) (by omega), fun m hm1 hm2 => ⟨hy.to (by omega) (by omega), by omega, fun u q' hu _ _ => ⟨hv, by omega⟩⟩⟩⟩⟩⟩)
theorem k_yClauseOf : SoundC Try.prog K_yClauseOf.1 K_yClauseOf.2 := sound_of hm ((((((((CtxOK.nil.and k_iClauseOk).and k_sClauseIs).and k_iClauseIs).and k_wpNums).and k_sClauseOf).and k_iClauseOf).and k_DrawClauseIs).and k_DrawClauseOf) (fun _ => []) (by kernel_rfl) fun (b : List Int) hb => (by
  replace hb : Byt b := hb
  rw [← vc_yClauseOf b]
  simp [-List.getD_eq_getElem?_getD, -List.mem_cons, -Bool.forall_bool, -Bool.exists_bool, and_assoc, peta, tl_inj, ex_1, ex_2, ex_3, ex_4, ex_5, ex_6, ex_7, ex_8, ex_9, ey_2, ey_3, ey_4, ey_5, ey_6, ey_7, ey_8, ey_9]
  refine fun hsz => ⟨by omega, hb, fun y hy => ⟨by omega, hb, fun _ v _ hv => ?_⟩⟩
  have hl := Pl.clauseOf_len y
  refine ⟨by omega, by omega, by omega, by omega, by omega, by omega, fun h => by rw [Pl.clauseOf_bad y h], fun h => ?_⟩
  obtain ⟨_, _, hmem⟩ := Pl.clause_mrk h
  have hag := Pl.clauseOf_again h
  exact ⟨by omega, by omega, fun _ => ⟨by omega, by omega, by omega, by omega, fun _ => ⟨fun _ => by rw [hag]; exact ⟨by show (Pl.clauseOf y).1.length ≤ _; omega, rfl⟩, by rw [hag]⟩, Pl.clauseIs_mem hmem⟩, Pl.clauseOf_ok h⟩)
theorem k_yClauseAlways : SoundC Try.prog K_yClauseAlways.1 K_yClauseAlways.2 := sound_of hm (((((CtxOK.nil.and k_iClauseIs).and k_sClauseOf).and k_iClauseOf).and k_DrawClauseIs).and k_DrawClauseOf) (fun _ => A_yClauseAlways) (by kernel_rfl) fun (b : List Int) hb => (by
  replace hb : Byt b := hb
  rw [← vc_yClauseAlways b]
  simp [-List.getD_eq_getElem?_getD, -List.mem_cons, -Bool.forall_bool, -Bool.exists_bool, and_assoc, peta, tl_inj, ex_1, ex_2, ex_3, ex_4, ex_5, ex_6, ex_7, ex_8, ex_9, ey_2, ey_3, ey_4, ey_5, ey_6, ey_7, ey_8, ey_9]
  refine fun hsz => ⟨by omega, hb, fun y hy => ⟨by omega, fun h => ⟨by omega, hb, fun _ v _ hv => ⟨⟨y, hy, v, hv, h, 0, by omega, by simp, rfl, rfl, rfl⟩, ?_⟩⟩⟩⟩
  clear hsz hb hy h hv
  intro y v k hy hv h hk hm
  refine ⟨fun hlt => ⟨hlt, fun h0 => ⟨hlt, fun h1 => ⟨hlt, fun h2 => ⟨y, hy, v, hv, h, k + 1, hlt, fun x hx => ?_, by omega, rfl, rfl, Cg.wrap_small (by omega) (by omega)⟩⟩⟩⟩, fun hge => ⟨by omega, by omega, Pl.always_true h hv fun x hx => hm x (by rwa [List.take_of_length_le hge])⟩⟩
  rw [Pl.take_succ_getD 0 hlt] at hx
  rcases List.mem_append.1 hx with e | e
  · exact hm x e
  · rw [List.mem_singleton.1 e]
    rw [Cg.wrap_small (by omega) (by omega)] at h2
    exact ⟨h0, h2, h1⟩)
end Cg
