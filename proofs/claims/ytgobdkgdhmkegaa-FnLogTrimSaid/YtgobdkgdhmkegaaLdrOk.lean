/-
  The codes' contracts: drawn logs. No condition.
-/
import Derived.Test.YtgobdkgdhmkegaaLdrVc
import Derived.Test.YtgobdkgdhmkegaaLdrLaw
import Derived.Test.YtgobdkgdhmkegaaHuntOk
set_option linter.unusedVariables false
set_option linter.unusedSimpArgs false
set_option maxRecDepth 100000
namespace Cg
open Go Go.Proofs

theorem IsX_ints {v : List Int} : IsX (.sl v.length 1 (cI v)) (ints v) := ⟨rfl, rfl, fun i hi j hj => EncN.eI.self _ hj⟩
theorem xrII_push {l : List (List Int)} {k : Nat} {v : List Int} {a : AV} (hk : k = l.length) (h : IsX a (ints v)) : IsO (.xarr (k + 1) 1 (joinC k (cII l) (rowsCell [[a]]))) (xrII (l ++ [v])) := by
  subst hk
  refine ⟨rfl, by simp, fun i hi j hj => ?_⟩
  have hj0 : j = 0 := by omega
  subst hj0
  by_cases h' : i < l.length
  · have e1 : (l ++ [v]).getD i [] = l.getD i [] := by simp only [List.getD_eq_getElem?_getD, List.getElem?_append_left h']
    show IsX (joinC l.length (cII l) (rowsCell [[a]]) i 0) (eII ((l ++ [v]).getD i []) 0)
    unfold joinC
    rw [blt_true h', e1]
    exact IsX_ints
  · have hi' : i = l.length := by omega
    subst hi'
    have e1 : (l ++ [v]).getD l.length [] = v := by simp
    show IsX (joinC l.length (cII l) (rowsCell [[a]]) l.length 0) (eII ((l ++ [v]).getD l.length []) 0)
    unfold joinC
    rw [blt_false h', e1, Nat.sub_self]
    exact h
@[simp] theorem xrII_self {l : List (List Int)} : IsO (xrII l) (xrII l) := ⟨rfl, rfl, fun i hi j hj => IsX_ints⟩

theorem Is_of_IsO {n n' e : Nat} {c c' : Nat → Nat → AV} (hn : n = n') (h : IsO (.arr n e c) (.arr n' e c')) : Is (.sl n e c) (.sl n' e c') := by
  subst hn
  rw [Is]
  refine ⟨rfl, ?_⟩
  rcases h.2 with h0 | ⟨_, h1⟩
  · exact .inl h0
  · exact .inr ⟨rfl, h1⟩
theorem k_l11Copy : SoundC Try.prog K_l11Copy.1 K_l11Copy.2 := sound_of hm CtxOK.nil (fun l => A_l11Copy l) (by kernel_rfl) fun (l : List (List Int)) hb => (by
  obtain ⟨h1, h2⟩ : l.length ≤ 1000 ∧ ∀ x ∈ l, x.length ≤ 1000 := hb
  rw [← vc_l11Copy l]
  simp [-List.getD_eq_getElem?_getD, -List.mem_cons, -Bool.forall_bool, -Bool.exists_bool, and_assoc, peta, tl_inj, ex_1, ex_2, ex_3, ex_4, ex_5, ex_6, ex_7, ex_8, ex_9, ey_2, ey_3, ey_4, ey_5, ey_6, ey_7, ey_8, ey_9]
  refine ⟨⟨0, by omega, rfl, rfl, .inl rfl⟩, fun x hx => ⟨fun hlt => ?_, fun hge => ⟨by omega, by rw [List.take_of_length_le hge]; exact xrII_self⟩⟩⟩
  have h3 := h2 _ (getD_mem [] hlt)
  refine ⟨hlt, by omega, by omega, by omega, by omega, by omega, wrap_succ hlt (by omega), ?_⟩
  rw [Pl.take_succ_getD [] hlt]
  exact xrII_push (by simp; omega) IsX_ints)
theorem k_l10CnfO : SoundC Try.prog K_l10CnfO.1 K_l10CnfO.2 := sound_of hm (((((CtxOK.nil.and k_sClauseOk).and k_sClauseOf).and k_l10Marks).and k_num).and k_pick) (fun (b, p) => A_l10Cnf b p) (by kernel_rfl) fun (b, p) hb => (by
  have hr : Rd 137438953472 b p := hb
  obtain ⟨g1, g2, g3, g4⟩ : Rd 137438953472 b p := hb
  rw [← vc_l10CnfO b p]
  simp [-List.getD_eq_getElem?_getD, -List.mem_cons, -Bool.forall_bool, -Bool.exists_bool, and_assoc, peta, tl_inj, ex_1, ex_2, ex_3, ex_4, ex_5, ex_6, ex_7, ex_8, ex_9, ey_2, ey_3, ey_4, ey_5, ey_6, ey_7, ey_8, ey_9]
  refine ⟨hr.to (by omega) (by omega), fun y hy => ⟨hr.to (by omega) (by omega), fun z hz => ⟨?_, fun k m cs q hk h1 h2 h3 h4 h5 => ⟨fun hlt => ?_, fun hge => ?_⟩⟩⟩⟩
  · simp at hy hz
    exact ⟨z, by omega, y, [], by simp; omega, by omega, by simp, by omega, by omega, rfl, rfl, rfl⟩
  · refine ⟨hr.to (by omega) (by omega), fun w hw => ⟨hr.to (by omega) (by omega), by simp at hw; omega, fun l q' hl h6 h7 => ?_⟩⟩
    have hlen := Pl.clauseOf_len l
    exact ⟨by omega, fun _ => ⟨by omega, fun _ => ⟨by omega, k - 1, by omega, m, cs ++ [(Pl.clauseOf l).1], by simp; omega, h2, fun x hx => by
        rcases List.mem_append.1 hx with hx | hx
        · exact h3 x hx
        · simp at hx; rw [hx]; omega, by omega, by omega, by omega, wrap_small (by omega) (by omega), rfl, by simp, intss_push⟩,
        fun _ => ⟨k - 1, by omega, m, cs, by omega, h2, h3, by omega, by omega, by omega, wrap_small (by omega) (by omega), rfl, rfl, .inr rfl⟩⟩,
      fun _ => ⟨k - 1, by omega, m, cs, by omega, h2, h3, by omega, by omega, by omega, wrap_small (by omega) (by omega), rfl, rfl, .inr rfl⟩⟩
  · have hk0 : k = 0 := by omega
    have hs : ∀ (n : Int) (l : List (List Int)), n ≤ 61 → l.length ≤ 100 → (∀ x ∈ l, x.length ≤ 100) → Sm (n, l) := fun n l a b c => ⟨a, b, c⟩
    refine ⟨hr.to (by omega) (by omega), fun y hy1 hy2 => ⟨fun _ => ⟨hr.to (by omega) (by omega), fun w hw => ⟨w, cs, hs _ _ (by simp at hw; omega) (by omega) h3, by omega, by omega, rfl, rfl, .inr rfl⟩⟩, fun _ => ⟨fun _ => ⟨by omega, m, cs ++ [[2, 1], [0]], hs _ _ (by omega) (by simp; omega) (fun x hx => by
        rcases List.mem_append.1 hx with hx | hx
        · exact h3 x hx
        · simp at hx; rcases hx with rfl | rfl <;> simp), by omega, by omega, rfl, by simp, ((Rds.cel EncN.eII cs).join (Rds.two (ints_lit2.2 rfl) (ints_lit1.2 rfl))).iso⟩,
      fun _ => ⟨m, cs, hs _ _ (by omega) (by omega) h3, by omega, by omega, rfl, rfl, .inr rfl⟩⟩⟩⟩)
theorem k_sHuntRunF : SoundC Try.prog K_sHuntRunF.1 K_sHuntRunF.2 := k_sHuntRun.imf
theorem k_l11Draw : SoundC Try.prog K_l11Draw.1 K_l11Draw.2 := sound_of hm (((((CtxOK.nil.and k_pick).and k_l11Copy).and k_sHuntRunF).and k_l10CnfO).and k_l16Open) (fun _ => A_l11Draw) (by kernel_rfl) fun (b : List Int) hb => (by
  obtain ⟨h1, h2⟩ : Sz b ∧ Byt b := hb
  rw [← vc_l11Draw b]
  simp [-List.getD_eq_getElem?_getD, -List.mem_cons, -Bool.forall_bool, -Bool.exists_bool, and_assoc, peta, tl_inj, ex_1, ex_2, ex_3, ex_4, ex_5, ex_6, ex_7, ex_8, ex_9, ey_2, ey_3, ey_4, ey_5, ey_6, ey_7, ey_8, ey_9]
  refine ⟨by omega, h2, fun y hy => ⟨hy.to (by omega) (by omega), fun a l q hs q1 q2 => ⟨?_, fun i bs p m cs hi hr hm hl hc => ?_⟩⟩⟩
  · obtain ⟨s1, s2, s3⟩ := hs.len
    exact ⟨0, by omega, y, q, hy.to (by omega) (by omega), a, s1, l, by omega, s3, rfl, rfl, rfl, rfl, rfl, .inr rfl⟩
  obtain ⟨g1, g2, g3⟩ := Pl.huntRun_sz (m, cs) 130
  have z1 : cs.length ≤ 4294967296 := by omega
  have z2 : ∀ x ∈ cs, x.length ≤ 4294967296 := fun x hx => by have := hc x hx; omega
  generalize Pl.huntRun (m, cs) 130 = R at *
  obtain ⟨vals, log, ok⟩ := R
  dsimp only at *
  have r1 := hr.2.2.1
  have r2 := hr.2.2.2
  have hlg : ∀ L : List (List Int), L.length ≤ 131 → (∀ y ∈ L, y.length ≤ 61) → LgOk ((m, cs), L) := fun L u1 u2 => ⟨hm, by show cs.length ≤ 103; omega, hc, u1, u2⟩
  have hown : LgOk ((m, cs), log) := hlg log (by omega) fun y hy => by have := g3 y hy; omega
  refine ⟨fun hlt => ⟨z1, z2, fun _ => ⟨z1, z2, ?_⟩, fun _ => ⟨fun _ => ⟨z1, z2, ?_⟩, fun hne => ?inner⟩⟩, fun hge => ⟨z1, z2, ?_⟩⟩
  case inner =>
    have fin : ∀ nt : List Int, nt.length ≤ 2 → cs.length * 24 ≤ 70368744177664 ∧ (cs.length + 1) * 24 ≤ 70368744177664 ∧ (∀ y ∈ cs ++ [nt], y.length ≤ 100) := fun nt hnt => ⟨by omega, by omega, fun y hy => by
      rcases List.mem_append.1 hy with e | e
      · exact hc y e
      · rw [List.mem_singleton.1 e]; omega⟩
    refine ⟨⟨0, by omega, [], rfl, rfl, rfl, rfl⟩, fun n nt vs hn2 hnt => ⟨fun hlt2 => ⟨fun hlt3 => ⟨hlt2,
      fun _ => ⟨by omega, n + 1, by omega, nt ++ [IntKind.i64.wrap (-IntKind.i64.wrap (↑n + 1))], by simp; omega, by omega, by simp, wrap_small (by omega) (by omega), ints_push⟩,
      fun _ => ⟨by omega, n + 1, by omega, nt ++ [IntKind.i64.wrap (↑n + 1)], by simp; omega, by omega, by simp, wrap_small (by omega) (by omega), ints_push⟩⟩,
      fun hge3 => ?_⟩, fun hge2 => ?_⟩⟩
    all_goals
      obtain ⟨f1, f2, f3⟩ := fin nt (by omega)
      exact ⟨f1, f2, i + 1, by omega, bs, p, hr, m, hm, cs ++ [nt], by simp; omega, f3, by omega, wrap_small (by omega) (by omega), rfl, rfl, rfl, by simp, intss_push⟩
  all_goals
    refine ⟨by omega, fun x hx => by have := g3 x hx; omega, fun h0 => ⟨hr.to (by omega) (by omega), fun w w1 w2 => ⟨fun _ => ⟨hr.to (by omega) (by omega), fun k k1 _ => ⟨hr.to (by omega) (by omega), fun z z3 z4 => ?_⟩⟩, fun _ => hown⟩⟩, fun _ => hown⟩
    obtain ⟨k3, k4⟩ := k1 (by omega)
    refine ⟨fun _ => ?_, fun _ => ⟨fun _ => ?_, fun _ => ?_⟩⟩
    · have hw : IntKind.i64.wrap (k + 1) = k + 1 := wrap_small (by omega) (by omega)
      rw [hw]
      have hL : LgOk ((m, cs), log.take k.toNat ++ log.drop (k + 1).toNat) := hlg _ (by simp; omega) fun y hy => by
        have : y ∈ log := (List.mem_append.1 hy).elim List.mem_of_mem_take List.mem_of_mem_drop
        have := g3 y this; omega
      have hI := ((Rds.take (d := []) EncN.eII (l := log) (x := k.toNat) (by omega)).join (Rds.drop EncN.eII log (k + 1).toNat)).is
      refine ⟨by omega, by omega, by omega, by omega, by omega, by omega, by omega, ⟨m, cs, _, hL, rfl, rfl, hI⟩, by omega, by omega, by omega, by omega, by omega, by omega, by omega, ⟨m, cs, _, hL, rfl, rfl, hI⟩⟩
    · have hk : k.toNat < log.length := by omega
      have h9 := g3 _ (getD_mem [] hk)
      have hL : LgOk ((m, cs), log.set k.toNat (log.getD k.toNat [] ++ [1])) := hlg _ (by simp; omega) fun y hy => by
        rcases List.mem_or_eq_of_mem_set hy with e | e
        · have := g3 y e; omega
        · rw [e]; simp only [List.length_append, List.length_singleton]; omega
      exact ⟨by omega, by omega, by omega, by omega, by omega, by omega, by omega, m, cs, _, hL, rfl, rfl, Is_of_IsO (by simp) (IsO_set EncN.eII rfl fun j hj => by
        match j, hj with
        | 0, _ => exact ((Rds.cel EncN.eI (log.getD k.toNat [])).join (Rds.row (ints_row 1))).is)⟩
    · exact ⟨by omega, m, cs, _, hlg (log ++ [[]]) (by simp; omega) (fun y hy => by
        rcases List.mem_append.1 hy with e | e
        · have := g3 y e; omega
        · rw [List.mem_singleton.1 e]; exact Nat.zero_le _), rfl, rfl, ((Rds.cel EncN.eII log).join (Rds.one (ints_nil.2 rfl))).is⟩)
theorem LgOk.sz {a : Int} {cl log : List (List Int)} (h : LgOk ((a, cl), log)) : cl.length ≤ 4294967296 ∧ (∀ x ∈ cl, x.length ≤ 4294967296) ∧ log.length ≤ 4294967296 ∧ ∀ x ∈ log, x.length ≤ 2147483648 := by
  obtain ⟨h1, h2, h3, h4, h5⟩ := h
  exact ⟨by dsimp only at *; omega, fun x hx => by have := h3 x hx; omega, by dsimp only at *; omega, fun x hx => by have := h5 x hx; omega⟩
theorem k_DrawLogOk : SoundC Try.prog K_DrawLogOk.1 K_DrawLogOk.2 := sound_of hm (CtxOK.nil.and k_l11Draw) (fun _ => []) (by kernel_rfl) fun (b : List Int) hb => (by
  obtain ⟨h1, h2⟩ : Sz b ∧ Byt b := hb
  rw [← vc_DrawLogOk b]
  simp [-List.getD_eq_getElem?_getD, -List.mem_cons, -Bool.forall_bool, -Bool.exists_bool, and_assoc, peta, tl_inj, ex_1, ex_2, ex_3, ex_4, ex_5, ex_6, ex_7, ex_8, ex_9, ey_2, ey_3, ey_4, ey_5, ey_6, ey_7, ey_8, ey_9]
  exact ⟨by omega, h2⟩)
theorem k_DrawLogTrim : SoundC Try.prog K_DrawLogTrim.1 K_DrawLogTrim.2 := sound_of hm (CtxOK.nil.and k_l11Draw) (fun _ => []) (by kernel_rfl) fun (b : List Int) hb => (by
  obtain ⟨h1, h2⟩ : Sz b ∧ Byt b := hb
  rw [← vc_DrawLogTrim b]
  simp [-List.getD_eq_getElem?_getD, -List.mem_cons, -Bool.forall_bool, -Bool.exists_bool, and_assoc, peta, tl_inj, ex_1, ex_2, ex_3, ex_4, ex_5, ex_6, ex_7, ex_8, ex_9, ey_2, ey_3, ey_4, ey_5, ey_6, ey_7, ey_8, ey_9]
  exact ⟨by omega, h2⟩)
theorem k_yLogOk : SoundC Try.prog K_yLogOk.1 K_yLogOk.2 := sound_of hm ((((((CtxOK.nil.and k_iClauseIs).and k_iCnfIs).and k_sLogOk).and k_iLogOk).and k_DrawCnfIs).and k_DrawLogOk) (fun _ => A_yLogOk) (by kernel_rfl) fun (b : List Int × List Int) hb => (by
  obtain ⟨h1, h2⟩ : Byt b.1 ∧ Byt b.2 := hb
  rw [← vc_yLogOk b.1 b.2]
  simp [-List.getD_eq_getElem?_getD, -List.mem_cons, -Bool.forall_bool, -Bool.exists_bool, and_assoc, peta, tl_inj, ex_1, ex_2, ex_3, ex_4, ex_5, ex_6, ex_7, ex_8, ex_9, ey_2, ey_3, ey_4, ey_5, ey_6, ey_7, ey_8, ey_9]
  refine fun l1 l2 => ⟨by omega, h1, fun a cl log hg => ⟨by omega, h1, fun a2 cl2 vs hs2 hv => ?_⟩⟩
  obtain ⟨z1, z2, z3, z4⟩ := hg.sz
  refine ⟨z1, z2, z3, z4, z1, z2, z3, z4, fun _ => ⟨z1, z2, z3, z4⟩, fun hok => ⟨z1, z2, by omega, ⟨a, cl, log, hg, hok, vs, hv, b.2, h2, by omega, 0, by omega, rfl, rfl, rfl, rfl, rfl, rfl, rfl⟩, fun a cl log vs more i hg hok hv hm hml hi => ?_⟩⟩
  obtain ⟨z1, z2, z3, z4⟩ := hg.sz
  have step : i < log.length → ∃ a_18 b_6 a_19, LgOk ((a_18, b_6), a_19) ∧ Pl.logOk (a_18, b_6) a_19 = true ∧ ∃ a_20 : List Bool, a_20.length ≤ 101 ∧ ∃ a_21, Byt a_21 ∧ a_21.length ≤ 1048576 ∧ ∃ x, x ≤ a_19.length ∧ a_19.length - x < log.length - i ∧ more = a_21 ∧ log = a_19 ∧ vs = a_20 ∧ Pl.cnfIs (a, cl) vs = Pl.cnfIs (a_18, b_6) a_20 ∧ IntKind.i64.wrap (↑i + 1) = ↑x ∧ a = a_18 ∧ cl = b_6 := fun hlt =>
    ⟨a, cl, log, hg, hok, vs, hv, more, hm, hml, i + 1, by omega, by omega, rfl, rfl, rfl, rfl, wrap_succ hlt (by omega), rfl, rfl⟩
  refine ⟨fun hlt => ⟨fun his => ⟨hlt, by have := z4 _ (getD_mem [] hlt); omega, by omega, Pl.logOk_at hok his hlt, fun _ => step hlt⟩, fun _ => step hlt⟩, fun hge => ?_⟩
  have hll : log.length ≤ 131 := hg.2.2.2.1
  rw [wrap_small (x := (log.length : Int) + 1) (by omega) (by omega)]
  have t1 : (0 : Int) ≤ (more.length : Int).tmod (log.length + 1) := Int.tmod_nonneg _ (by omega)
  have t2 : (more.length : Int).tmod (log.length + 1) < log.length + 1 := Int.tmod_lt_of_pos _ (by omega)
  refine ⟨by omega, t1, by omega, log.take _, (intss_take (by omega)).2 rfl, z1, z2, by simp; omega, fun y hy => z4 y (List.mem_of_mem_take hy), Pl.logOk_take hok _⟩)
theorem k_yLogNever : SoundC Try.prog K_yLogNever.1 K_yLogNever.2 := sound_of hm ((((((((CtxOK.nil.and k_iHuntRun).and k_iCnfIs).and k_sLogEnds).and k_iLogEnds).and k_sLogOk).and k_iLogOk).and k_DrawCnfIs).and k_DrawLogOk) (fun _ => []) (by kernel_rfl) fun (b : List Int) hb => (by
  replace hb : Byt b := hb
  rw [← vc_yLogNever b]
  simp [-List.getD_eq_getElem?_getD, -List.mem_cons, -Bool.forall_bool, -Bool.exists_bool, and_assoc, peta, tl_inj, ex_1, ex_2, ex_3, ex_4, ex_5, ex_6, ex_7, ex_8, ex_9, ey_2, ey_3, ey_4, ey_5, ey_6, ey_7, ey_8, ey_9]
  refine fun l1 => ⟨by omega, hb, fun a cl log hg => ⟨by omega, hb, fun a2 cl2 vs hs2 hv => ?_⟩⟩
  obtain ⟨z1, z2, z3, z4⟩ := hg.sz
  exact ⟨z1, z2, z3, z4, z3, z1, z2, z3, z4, z3, fun hok he => ⟨z1, z2, z1, z2, by omega, fun _ _ => Pl.huntRun_never hok he, Pl.logOk_never hok he⟩⟩)
theorem k_yLogMore : SoundC Try.prog K_yLogMore.1 K_yLogMore.2 := sound_of hm (((CtxOK.nil.and k_sLogOk).and k_iLogOk).and k_DrawLogOk) (fun _ => []) (by kernel_rfl) fun (b : List Int) hb => (by
  replace hb : Byt b := hb
  rw [← vc_yLogMore b]
  simp [-List.getD_eq_getElem?_getD, -List.mem_cons, -Bool.forall_bool, -Bool.exists_bool, and_assoc, peta, tl_inj, ex_1, ex_2, ex_3, ex_4, ex_5, ex_6, ex_7, ex_8, ex_9, ey_2, ey_3, ey_4, ey_5, ey_6, ey_7, ey_8, ey_9]
  refine fun l1 => ⟨by omega, hb, fun a cl log hg => ?_⟩
  obtain ⟨z1, z2, z3, z4⟩ := hg.sz
  have hcl : cl.length ≤ 103 := hg.2.1
  have hll : log.length ≤ 131 := hg.2.2.2.1
  refine ⟨z1, z2, z3, z4, z1, z2, z3, z4, fun _ => ⟨z1, z2, z3, z4⟩, fun hok => ⟨fun _ => ⟨z1, z2, z3, z4⟩, fun hne => ?_⟩⟩
  have h0 : 0 < cl.length := List.length_pos_iff.2 hne
  have hin : cl.getD 0 [] ∈ cl := getD_mem [] h0
  refine ⟨h0, by omega, by omega, cl ++ [cl.getD 0 []], ((Rds.cel EncN.eII cl).join (Rds.one (Is_ints.2 rfl))).is, by simp; omega, fun y hy => ?_, z3, z4, Pl.logOk_more (c := (a, cl)) hok h0 (by show cl.length + 1 + log.length ≤ 400; omega)⟩
  rcases List.mem_append.1 hy with e | e
  · exact z2 y e
  · rw [List.mem_singleton.1 e]; exact z2 _ hin)
end Cg
