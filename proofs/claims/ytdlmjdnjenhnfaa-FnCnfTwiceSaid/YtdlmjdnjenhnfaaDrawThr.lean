/-
  The codes' contracts: laws of drawn clause sets. No condition.
-/
import Derived.Test.YtdlmjdnjenhnfaaDrawTwo
set_option linter.unusedVariables false
set_option linter.unusedSimpArgs false
set_option maxRecDepth 100000
namespace Cg
open Go Go.Proofs

theorem byt_of {l : List Int} (h : ∀ x ∈ l, (Lit.int .u8 x).wf = true) : Byt l := fun x hx => by
  have := h x hx
  simp [Lit.wf, IntKind.min, IntKind.max, IntKind.signed, IntKind.bits] at this
  omega
theorem ints_lit0 {c : Nat → Nat → AV} : Is (.lit 0 1 c) (ints []) := ints_nil.2 rfl
theorem k_yCnfTwice : SoundC Try.prog K_yCnfTwice.1 K_yCnfTwice.2 := sound_of hm (((((CtxOK.nil.and k_sCnfOk).and k_wpNums).and k_sCnfUnits).and k_iCnfUnits).and k_DrawCnfUnits) (fun _ => []) (by kernel_rfl) fun (b : List Int) hb => cast (vc_yCnfTwice b) (by
  replace hb : Byt b := hb
  simp [-List.getD_eq_getElem?_getD, -List.mem_cons, -Bool.forall_bool, -Bool.exists_bool, and_assoc, ex_1, ex_2, ex_3, ex_4, ex_5, ex_6, ex_7, ex_8, ex_9, ey_2, ey_3, ey_4, ey_5, ey_6, ey_7, ey_8, ey_9]
  refine fun hsz => ⟨by omega, hb, fun a b put hs hp => ?_⟩
  obtain ⟨s1, s2⟩ : SzL b := hs.szC
  have l1 := Pl.cnfUnits_len (a, b) put
  have l2 := Pl.cnfUnits_len (a, b) (Pl.cnfUnits (a, b) put).1
  refine ⟨s1, s2, by omega, s1, s2, by omega, by omega, fun _ => by omega, fun h1 => ⟨fun _ => by omega, fun h2 => ?_⟩⟩
  have key : Pl.cnfOk (a, b) = true → Pl.cnfUnits (a, b) (Pl.cnfUnits (a, b) put).1 = ((Pl.cnfUnits (a, b) put).1, false) := fun hc => Pl.units_twice hc h2 h1
  refine ⟨s1, s2, by omega, fun h3 => ⟨by omega, fun h4 => ⟨s1, s2, ?_⟩⟩, fun h3 => ⟨s1, s2, ?_⟩⟩
  · cases hc : Pl.cnfOk (a, b)
    · rfl
    · exact absurd (by rw [key hc]) h4
  · cases hc : Pl.cnfOk (a, b)
    · rfl
    · rw [key hc] at h3; cases h3)

theorem k_yCnfBent : SoundC Try.prog K_yCnfBent.1 K_yCnfBent.2 := sound_of hm (((((((CtxOK.nil.and k_iCnfRup).and k_iCnfIs).and k_iCnfUnits).and k_sCnfOk).and k_iCnfOk).and k_DrawCnfIs).and k_DrawCnfRup) (fun _ => []) (by kernel_rfl) fun (b : List Int) hb => cast (vc_yCnfBent b) (by
  replace hb : Byt b := hb
  simp [-List.getD_eq_getElem?_getD, -List.mem_cons, -Bool.forall_bool, -Bool.exists_bool, and_assoc, ex_1, ex_2, ex_3, ex_4, ex_5, ex_6, ex_7, ex_8, ex_9, ey_2, ey_3, ey_4, ey_5, ey_6, ey_7, ey_8, ey_9]
  refine fun hsz => ⟨by omega, hb, fun a b put hs hp => ⟨by omega, hb, fun a' b' v _ hv => ?_⟩⟩
  obtain ⟨s1, s2⟩ : SzL b := hs.szC
  refine ⟨s1, s2, s1, s2, fun _ => ⟨s1, s2⟩, fun h => ⟨s1, s2, s1, s2, by omega, fun _ => ⟨fun _ => ⟨fun _ => ⟨s1, s2, by omega, by simp [Pl.rup, h]⟩, by simp [Pl.cnfUnits, h]⟩, by simp [Pl.cnfUnits, h]⟩, by simp [Pl.cnfIs, h]⟩⟩)

theorem k_yCnfSame : SoundC Try.prog K_yCnfSame.1 K_yCnfSame.2 := sound_of hm (((CtxOK.nil.and k_sCnfSame).and k_iCnfSame).and k_DrawCnfSame) (fun _ => []) (by kernel_rfl) fun (b : List Int) hb => cast (vc_yCnfSame b) (by
  replace hb : Byt b := hb
  simp [-List.getD_eq_getElem?_getD, -List.mem_cons, -Bool.forall_bool, -Bool.exists_bool, and_assoc, ex_1, ex_2, ex_3, ex_4, ex_5, ex_6, ex_7, ex_8, ex_9, ey_2, ey_3, ey_4, ey_5, ey_6, ey_7, ey_8, ey_9]
  refine fun hsz => ⟨by omega, hb, fun a b a' b' hs h1 h2 _ => ?_⟩
  obtain ⟨t1, t2, t3⟩ := hs.len
  obtain ⟨s1, s2⟩ : SzL b := hs.szC
  refine ⟨s1, s2, s1, s2, s1, s2, h1, h2, ⟨fun h => ⟨h.1.symm, h.2.symm⟩, fun h => ⟨h.1.symm, h.2.symm⟩⟩, fun _ => ⟨s1, s2, by omega, by omega, b ++ [[]], ((Rds.cel EncN.eII b).join (Rds.one ints_lit0)).is, s1, s2, by simp⟩⟩)

theorem k_yCnfRup : SoundC Try.prog K_yCnfRup.1 K_yCnfRup.2 := sound_of hm (((((((((CtxOK.nil.and k_iClauseIs).and k_iCnfIs).and k_sCnfOk).and k_sClauseOk).and k_iClauseOk).and k_sCnfRup).and k_iCnfRup).and k_DrawCnfIs).and k_DrawCnfRup) (fun _ => A_yCnfRup) (by kernel_rfl) fun (b : List Int) hb => cast (vc_yCnfRup b) (by
  replace hb : Byt b := hb
  simp [-List.getD_eq_getElem?_getD, -List.mem_cons, -Bool.forall_bool, -Bool.exists_bool, and_assoc, ex_1, ex_2, ex_3, ex_4, ex_5, ex_6, ex_7, ex_8, ex_9, ey_2, ey_3, ey_4, ey_5, ey_6, ey_7, ey_8, ey_9]
  refine fun hsz => ⟨by omega, hb, fun a b cl hs hc => ⟨by omega, hb, fun a' b' v hs' hv => ?_⟩⟩
  obtain ⟨s1, s2⟩ : SzL b := hs.szC
  refine ⟨s1, s2, by omega, s1, s2, by omega, by omega, Pl.clause_same _ _, fun _ => ⟨⟨a, b, hs, cl, hc, a', b', hs', v, hv, 0, by omega, rfl, rfl, rfl, rfl, rfl, rfl, rfl, rfl⟩, fun a b cl a' b' v k hs hc hs' hv hk => ?_⟩⟩
  obtain ⟨s1, s2⟩ : SzL b := hs.szC
  obtain ⟨t1, t2, t3⟩ := hs.len
  have fin : Pl.rup (a, b) cl = true → b.length ≤ 4294967296 ∧ (∀ (x : List Int), x ∈ b → x.length ≤ 4294967296) ∧ v.length ≤ 4294967296 ∧ (Pl.cnfIs (a, b) v = true → cl.length ≤ 4294967296 ∧ v.length ≤ 4294967296 ∧ Pl.clauseIs cl v = true) :=
    fun h => ⟨s1, s2, by omega, fun h2 => ⟨by omega, by omega, Pl.rup_true h h2⟩⟩
  exact ⟨fun hlt => ⟨s1, s2, fun h => ⟨hlt, s1, s2, by have := t3 _ (getD_mem [] hlt); omega, Pl.rup_self h (getD_mem [] hlt), fun _ => ⟨a, b, hs, cl, hc, a', b', hs', v, hv, k + 1, hlt, by omega, rfl, rfl, rfl, wrap_succ hlt s1, rfl, rfl, rfl, rfl⟩⟩, fun _ => fin⟩, fun _ => fin⟩)

theorem yCnfIs_body (more : List Int) (hm : (more.length : Int) ≤ 1048576) : ∀ (a : Int) (b : List (List Int)) (v : List Bool) (k : Nat) (each so : Bool), Sm (a, b) → v.length ≤ 101 → k ≤ b.length → so = Pl.cnfIs (a, b) v → Pl.cnfIs (a, b) v = (each && (List.drop k b).all fun y => Pl.clauseIs y v) →
    (k < b.length → (each = true → k < b.length ∧ (b.getD k []).length ≤ 4294967296 ∧ v.length ≤ 4294967296 ∧
      ∃ a' b', Sm (a', b') ∧ ∃ v', v'.length ≤ 101 ∧ ∃ k', k' ≤ b'.length ∧ Pl.cnfIs (a', b') v' = (Pl.clauseIs (b.getD k []) v && (List.drop k' b').all fun y => Pl.clauseIs y v') ∧
        b'.length - k' < b.length - k ∧ v = v' ∧ so = Pl.cnfIs (a', b') v' ∧ IntKind.i64.wrap ((k : Int) + 1) = (k' : Int) ∧ a = a' ∧ b = b') ∧
      (each = false → ∃ a' b', Sm (a', b') ∧ ∃ v', v'.length ≤ 101 ∧ ∃ k', k' ≤ b'.length ∧ ∃ e', Pl.cnfIs (a', b') v' = (e' && (List.drop k' b').all fun y => Pl.clauseIs y v') ∧
        b'.length - k' < b.length - k ∧ v = v' ∧ so = Pl.cnfIs (a', b') v' ∧ e' = false ∧ IntKind.i64.wrap ((k : Int) + 1) = (k' : Int) ∧ a = a' ∧ b = b')) ∧
    (b.length ≤ k → ¬ IntKind.i64.wrap ((b.length : Int) + 1) = 0 ∧ (so = each → so = true →
      0 ≤ (more.length : Int).tmod (IntKind.i64.wrap ((b.length : Int) + 1)) ∧ (more.length : Int).tmod (IntKind.i64.wrap ((b.length : Int) + 1)) ≤ (b.length : Int) ∧
      ∃ x, Is (AV.sl ((more.length : Int).tmod (IntKind.i64.wrap ((b.length : Int) + 1))).toNat 1 (cII b)) (intss x) ∧ x.length ≤ 4294967296 ∧ (∀ (y : List Int), y ∈ x → y.length ≤ 4294967296) ∧ v.length ≤ 4294967296 ∧ Pl.cnfIs (a, x) v = true) ∧ so = each) := fun a b v k each so hs hv hk hso he => by
  obtain ⟨s1, s2⟩ : SzL b := hs.szC
  refine ⟨fun hlt => ⟨fun h => ⟨hlt, s2 _ (getD_mem [] hlt), by omega, a, b, hs, v, hv, k + 1, hlt, ?_, by omega, rfl, hso, wrap_succ hlt s1, rfl, rfl⟩, fun h => ⟨a, b, hs, v, hv, k + 1, hlt, false, ?_, by omega, rfl, hso, rfl, wrap_succ hlt s1, rfl, rfl⟩⟩, fun hge => ?_⟩
  · rw [he, h, drop_get [] hlt, List.all_cons, Bool.true_and]
  · rw [he, h]; rfl
  · rw [drop_end (by omega), List.all_nil, Bool.and_true] at he
    rw [wrap_small (by omega) (by omega)]
    have t1 : 0 ≤ (more.length : Int).tmod ((b.length : Int) + 1) := Int.tmod_nonneg _ (by omega)
    have t2 : (more.length : Int).tmod ((b.length : Int) + 1) < (b.length : Int) + 1 := Int.tmod_lt_of_pos _ (by omega)
    refine ⟨by omega, fun _ h => ⟨t1, by omega, b.take ((more.length : Int).tmod ((b.length : Int) + 1)).toNat, (intss_take (by omega)).2 rfl, by simp; omega, fun y hy => s2 y (List.mem_of_mem_take hy), by omega, Pl.cnfIs_take _ (by rw [← hso]; exact h)⟩, by rw [hso, he]⟩

theorem k_yCnfIs : SoundC Try.prog K_yCnfIs.1 K_yCnfIs.2 := sound_of hm ((((((CtxOK.nil.and k_iClauseIs).and k_sCnfOk).and k_iCnfOk).and k_sCnfIs).and k_iCnfIs).and k_DrawCnfIs) (fun (_, more) => A_yCnfIs more) (by kernel_rfl) fun (b, more) hb => cast (vc_yCnfIs b more) (by
  obtain ⟨hb, hm⟩ : Byt b ∧ Byt more := hb
  simp [-List.getD_eq_getElem?_getD, -List.mem_cons, -Bool.forall_bool, -Bool.exists_bool, and_assoc, ex_1, ex_2, ex_3, ex_4, ex_5, ex_6, ex_7, ex_8, ex_9, ey_2, ey_3, ey_4, ey_5, ey_6, ey_7, ey_8, ey_9]
  refine fun hsz hsz' => ⟨by omega, hb, fun a b v hs hv => ?_⟩
  obtain ⟨s1, s2⟩ : SzL b := hs.szC
  have body : ∀ (a : Int) (b : List (List Int)) (v : List Bool) (k : Nat) (each so : Bool), Sm (a, b) → v.length ≤ 101 → k ≤ b.length → so = Pl.cnfIs (a, b) v → Pl.cnfIs (a, b) v = (each && (List.drop k b).all fun y => Pl.clauseIs y v) → _ := yCnfIs_body more hsz'
  refine ⟨s1, s2, by omega, s1, s2, by omega, s1, s2, s1, s2, s1, s2, fun h => ⟨⟨a, b, hs, v, hv, 0, by omega, ?_, rfl, rfl, rfl, rfl, rfl⟩, body⟩, fun h => ⟨⟨a, b, hs, v, hv, 0, by omega, false, ?_, rfl, rfl, rfl, rfl, rfl, rfl⟩, body⟩⟩
  · unfold Pl.cnfIs
    rw [h, Bool.true_and, List.drop_zero, beq_eq_decide]
  · simp [Pl.cnfIs, h])
end Cg
