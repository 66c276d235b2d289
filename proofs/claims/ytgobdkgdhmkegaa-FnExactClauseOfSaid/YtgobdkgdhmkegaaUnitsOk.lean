/-
  The codes' contracts: unit propagation. No condition.
-/
import Derived.Test.YtgobdkgdhmkegaaUnitsVc
import Derived.Test.YtgobdkgdhmkegaaUnitsLaw
import Derived.Test.YtgobdkgdhmkegaaCnfOk
set_option linter.unusedVariables false
set_option linter.unusedSimpArgs false
set_option maxRecDepth 100000
namespace Cg
open Go Go.Proofs

theorem k_l10At : SoundC Try.prog K_l10At.1 K_l10At.2 := sound_of hm CtxOK.nil (fun (l, n) => A_l10At l n) (by kernel_rfl) fun (l, n) hl => cast (vc_l10At l n) (by
  replace hl : Sz l := hl
  simp [-List.getD_eq_getElem?_getD, and_assoc]
  refine ⟨⟨0, by simp, rfl, rfl⟩, fun k hk he => ⟨fun hlt => ?_, fun hge => ?_⟩⟩
  · rw [drop_get 0 hlt] at he
    simp only [Pl.at_] at he
    refine ⟨hlt, fun h1 => ?_, fun h1 => ⟨hlt, fun h2 => ?_, fun h2 => ⟨k + 1, hlt, ?_, by omega, wrap_succ hlt hl⟩⟩⟩
    · rw [he, if_pos h1]
    · rw [he, if_neg h1, if_pos (by rw [h2]; unfold Pl.wneg; congr 1; omega)]
    · rw [he, if_neg h1, if_neg (fun e => h2 (by rw [e]; unfold Pl.wneg; congr 1; omega))]
  · rw [he, drop_end (by omega)]; rfl)

theorem k_l10Left : SoundC Try.prog K_l10Left.1 K_l10Left.2 := sound_of hm (CtxOK.nil.and k_l10At) (fun (put, c) => A_l10Left put c) (by kernel_rfl) fun (put, c) hl => cast (vc_l10Left put c) (by
  obtain ⟨hp, hc⟩ : Sz put ∧ Sz c := hl
  simp [-List.getD_eq_getElem?_getD, and_assoc]
  refine ⟨⟨0, by simp, 0, by simp, 0, rfl, rfl, rfl, rfl⟩, fun k n b hk hn he => ⟨fun hlt => ?_, fun hge => ?_⟩⟩
  · rw [drop_get 0 hlt] at he
    simp only [Pl.leftL] at he
    refine ⟨hlt, hp, fun h1 => ?_, fun h1 => ⟨fun h2 => ⟨fun h3 => ⟨hlt, k + 1, hlt, n + 1, by omega, c.getD k 0, ?_, by omega, by rw [wrap_small (by omega) (by omega)]; omega, rfl, wrap_succ hlt hc⟩, fun h3 => ⟨k + 1, hlt, n + 1, by omega, b, ?_, by omega, by rw [wrap_small (by omega) (by omega)]; omega, rfl, wrap_succ hlt hc⟩⟩, fun h2 => ⟨k + 1, hlt, n, by omega, b, ?_, by omega, rfl, rfl, wrap_succ hlt hc⟩⟩⟩
    · rw [he, if_pos h1]; exact ⟨rfl, rfl⟩
    · rw [he, if_neg h1, if_pos h2, if_pos h3]
    · rw [he, if_neg h1, if_pos h2, if_neg h3]
    · rw [he, if_neg h1, if_neg h2]
  · rw [drop_end (by omega)] at he
    rw [he]
    exact ⟨rfl, rfl⟩)

theorem k_l10Units : SoundC Try.prog K_l10Units.1 K_l10Units.2 := sound_of hm (CtxOK.nil.and k_l10Left) (fun (c, put) => A_l10Units c put) (by kernel_rfl) fun (c, put) hl => cast (vc_l10Units c put) (by
  obtain ⟨hok, ⟨hl, h2⟩, hp⟩ : Pl.cnfOk c = true ∧ SzC c ∧ SzH put := hl
  obtain ⟨m, c⟩ := c
  simp [-List.getD_eq_getElem?_getD, and_assoc]
  have hm := Pl.cnfOk_mk hok
  refine ⟨by omega, ⟨0, by simp, 61, put, rfl, Pl.uncov_le put, by simp, by omega, rfl, rfl, ints_join0'⟩, fun i k b hi he hu hs hk => ⟨fun hlt => ?_, fun hge => ?_⟩⟩
  · have hb : b.length ≤ 4294967296 := by omega
    have hs' := hs
    rw [drop_get [] hlt] at hs'
    simp only [Pl.scanS] at hs'
    obtain ⟨k, rfl⟩ : ∃ k', k = k' + 1 := ⟨k - 1, by omega⟩
    refine ⟨hlt, hb, h2 _ (getD_mem [] hlt), fun h1 => ?_, fun h1 => ⟨fun h3 => ?_, fun h3 => ⟨i + 1, hlt, k + 1, b, he, hu, ?_, hk, ?_, rfl, wrap_succ hlt hl, .inr rfl⟩⟩⟩
    · rw [he]; unfold Pl.unitsF; rw [hs', if_pos h1]; exact ⟨rfl, rfl⟩
    · have h4 : (Pl.left b (c.getD i [])).1 = 1 := by omega
      obtain ⟨h5, h6⟩ := Pl.left_one h4
      obtain ⟨h7, h8⟩ := Pl.at_ne h6
      have h9 := Pl.cov_snoc (hm _ (getD_mem [] hlt) _ h5) h7 h8
      refine ⟨by omega, 0, by simp, k, b ++ [(Pl.left b (c.getD i [])).2], ?_, by omega, by simp, by simp; omega, ?_, by simp, rfl, ints_push⟩
      · rw [he]
        conv => lhs; unfold Pl.unitsF
        rw [hs', if_neg h1, if_pos h4]
      · rw [Nat.succ_mul]; omega
    · rw [hs, drop_get [] hlt]
      simp only [Pl.scanS]
      rw [if_neg h1, if_neg (by omega)]
    · omega
  · obtain ⟨k, rfl⟩ : ∃ k', k = k' + 1 := ⟨k - 1, by omega⟩
    rw [drop_end (by omega)] at hs
    rw [he]; unfold Pl.unitsF; rw [hs]; exact ⟨rfl, rfl⟩)

theorem k_l10Nots : SoundC Try.prog K_l10Nots.1 K_l10Nots.2 := sound_of hm CtxOK.nil A_l10Nots (by kernel_rfl) fun (l : List Int) (hl : SzH l) => cast (vc_l10Nots l) (by
  simp [-List.getD_eq_getElem?_getD, and_assoc]
  refine ⟨⟨0, by simp, [], rfl, by simp, rfl, rfl, rfl⟩, fun k b hk hb he => ⟨fun hlt => ⟨hlt, by omega, k + 1, hlt, b ++ [Pl.wneg (l.getD k 0)], by simp [hb], ?_, by omega, by simp, by rw [wrap_small (by omega) (by omega)]; omega, ?_⟩, fun hge => ?_⟩⟩
  · rw [he, drop_get 0 hlt]; simp [Pl.nots]
  · have e : IntKind.i64.wrap (-l.getD k 0) = Pl.wneg (l.getD k 0) := by unfold Pl.wneg; congr 1; omega
    rw [e]; exact ints_push
  · rw [he, drop_end (by omega)]; simp [Pl.nots])

theorem k_sCnfRup : SoundC Try.prog K_sCnfRup.1 K_sCnfRup.2 := sound_of hm ((((CtxOK.nil.and k_l10Units).and k_l10Nots).and k_sClauseOk).and k_sCnfOk) (fun _ => []) (by kernel_rfl) fun (c, cl) hl => cast (vc_sCnfRup c cl) (by
  obtain ⟨hl, hp⟩ : SzC c ∧ SzH cl := hl
  obtain ⟨m, c⟩ := c
  simp [-List.getD_eq_getElem?_getD, and_assoc]
  refine ⟨hl.1, hl.2, fun h => by simp [Pl.rup, h], fun h => ⟨by omega, fun h1 => by simp [Pl.rup, h1], fun h1 => ⟨hp, h, hl.1, hl.2, by simpa [Pl.nots] using hp, by simp [Pl.rup, h, h1]⟩⟩⟩)

theorem k_Index : SoundC Try.prog K_Index.1 K_Index.2 := sound_of hm CtxOK.nil (fun (l, n) => A_Index l n) (by kernel_rfl) fun (l, n) hl => cast (vc_Index l n) (by
  replace hl : Sz l := hl
  simp [-List.getD_eq_getElem?_getD, and_assoc]
  exact ⟨⟨0, by simp, idx_init _ _, rfl⟩, fun k hk he => ⟨fun hlt => ⟨hlt, fun h => (idx_step 0 _ hlt he).1 (by simp [h, -List.getD_eq_getElem?_getD]), fun h => ⟨k + 1, hlt, (idx_step 0 _ hlt he).2 (by simp [h, -List.getD_eq_getElem?_getD]), by omega, wrap_succ hlt hl⟩⟩, fun hge => idx_end _ hge he⟩⟩)

theorem any_eq_mem (l : List Int) (n : Int) : (l.any fun y => decide (n = y)) = decide (n ∈ l) := by
  rw [Bool.eq_iff_iff]
  simp

theorem k_Contains : SoundC Try.prog K_Contains.1 K_Contains.2 := sound_of hm (CtxOK.nil.and k_Index) (fun _ => []) (by kernel_rfl) fun (l, n) hl => cast (vc_Contains l n) (by
  replace hl : Sz l := hl
  simp only [idx_any]
  simp [and_assoc, hl]
  exact any_eq_mem l n)

theorem k_Clone : SoundC Try.prog K_Clone.1 K_Clone.2 := sound_of hm CtxOK.nil (fun _ => []) (by kernel_rfl) fun (l : List Int) (hl : SzH l) => cast (vc_Clone l) (by
  simp [-List.getD_eq_getElem?_getD, and_assoc]
  omega)

theorem k_unit : SoundC Try.prog K_unit.1 K_unit.2 := sound_of hm (CtxOK.nil.and k_Contains) (fun (c, put) => A_unit c put) (by kernel_rfl) fun (c, put) hl => cast (vc_unit c put) (by
  obtain ⟨hc, hp⟩ : Sz c ∧ Sz put := hl
  simp [-List.getD_eq_getElem?_getD, and_assoc]
  refine ⟨⟨0, by simp, 0, 0, by simp, rfl, rfl, rfl, rfl⟩, fun k f n hk hn he => ⟨fun hlt => ?_, fun hge => ?_⟩⟩
  · rw [drop_get 0 hlt] at he
    have e : IntKind.i64.wrap (-c.getD k 0) = Pl.wneg (c.getD k 0) := by unfold Pl.wneg; congr 1; omega
    rw [e]
    refine ⟨hlt, hp, fun h1 => ?_, fun h1 => ⟨hp, fun h2 => ⟨k + 1, hlt, c.getD k 0, n + 1, by omega, ?_, by omega, rfl, by rw [wrap_small (by omega) (by omega)]; omega, wrap_succ hlt hc⟩, fun h2 => ⟨k + 1, hlt, f, n, by omega, ?_, by omega, rfl, rfl, wrap_succ hlt hc⟩⟩⟩
    · rw [he]; simp [Pl.unitL, h1, -List.getD_eq_getElem?_getD]
    · rw [he]; simp [Pl.unitL, h1, h2, -List.getD_eq_getElem?_getD]
    · rw [he]; simp [Pl.unitL, h1, h2, -List.getD_eq_getElem?_getD]
  · rw [drop_end (by omega)] at he
    simp only [Pl.unitL] at he
    rw [he]
    have e : ((n : Int) == 0) = decide (n = 0) := by rw [Bool.eq_iff_iff]; simp
    refine ⟨fun h => ⟨by rw [if_pos (by omega)], e⟩, fun h => ⟨by rw [if_neg (by omega)], e⟩⟩)

theorem k_units : SoundC Try.prog K_units.1 K_units.2 := sound_of hm ((CtxOK.nil.and k_unit).and k_Clone) (fun (l, put) => A_units l put) (by kernel_rfl) fun (l, put) hl => cast (vc_units l put) (by
  obtain ⟨⟨m, hok⟩, ⟨hl, h2⟩, hp⟩ : (∃ m, Pl.cnfOk (m, l) = true) ∧ SzL l ∧ SzH put := hl
  simp [-List.getD_eq_getElem?_getD, and_assoc]
  have hm := Pl.cnfOk_mk hok
  refine ⟨put, hp, rfl, ⟨61, put, rfl, Pl.uncov_le put, rfl, rfl, .inr rfl⟩, fun k b he hu hk => ?_⟩
  obtain ⟨k, rfl⟩ : ∃ k', k = k' + 1 := ⟨k - 1, by omega⟩
  refine ⟨⟨0, by simp, by simp, rfl⟩, fun i hi hs => ⟨fun hlt => ?_, fun hge => ?_⟩⟩
  · have hs' := hs
    rw [drop_get [] hlt] at hs'
    simp only [Pl.scanI] at hs'
    refine ⟨hlt, h2 _ (getD_mem [] hlt), by omega, fun h1 => ?_, fun h1 => ⟨fun h3 => ⟨fun h4 => absurd h4 h3, fun _ => ?_⟩, fun h3 => ⟨i + 1, hlt, ?_, by omega, wrap_succ hlt hl⟩⟩⟩
    · rw [he]; unfold Pl.unitsF; rw [hs', if_pos h1]; exact ⟨rfl, rfl⟩
    · rw [h1, if_neg (by simp), if_pos h3] at hs'
      obtain ⟨h5, h7, h8⟩ := Pl.unit_free h3
      have h9 := Pl.cov_snoc (hm _ (getD_mem [] hlt) _ h5) h7 h8
      refine ⟨by omega, k, b ++ [(Pl.unit (l.getD i []) b).1], ?_, by omega, by simp; omega, by omega, by simp, ints_push⟩
      rw [he]
      conv => lhs; unfold Pl.unitsF
      rw [hs']
    · rw [hs, drop_get [] hlt]
      simp only [Pl.scanI]
      rw [h1, if_neg (by simp), if_neg (by simpa using h3)]
  · rw [drop_end (by omega)] at hs
    rw [he]; unfold Pl.unitsF; rw [hs]; exact ⟨rfl, rfl⟩)

theorem k_negated : SoundC Try.prog K_negated.1 K_negated.2 := sound_of hm CtxOK.nil A_negated (by kernel_rfl) fun (l : List Int) (hl : SzH l) => cast (vc_negated l) (by
  simp [-List.getD_eq_getElem?_getD, and_assoc]
  refine ⟨⟨0, by simp, [], rfl, by simp, rfl, rfl, rfl⟩, fun k b hk hb he => ⟨fun hlt => ⟨hlt, by omega, k + 1, hlt, b ++ [Pl.wneg (l.getD k 0)], by simp [hb], ?_, by omega, by simp, by rw [wrap_small (by omega) (by omega)]; omega, ?_⟩, fun hge => ?_⟩⟩
  · rw [he, drop_get 0 hlt]; simp [Pl.nots]
  · have e : IntKind.i64.wrap (-l.getD k 0) = Pl.wneg (l.getD k 0) := by unfold Pl.wneg; congr 1; omega
    rw [e]; exact ints_push
  · rw [he, drop_end (by omega)]; simp [Pl.nots])

theorem k_iCnfRup : SoundC Try.prog K_iCnfRup.1 K_iCnfRup.2 := sound_of hm ((((CtxOK.nil.and k_units).and k_negated).and k_iClauseOk).and k_iCnfOk) (fun _ => []) (by kernel_rfl) fun (c, cl) hl => cast (vc_iCnfRup c cl) (by
  obtain ⟨hl, hp⟩ : SzC c ∧ SzH cl := hl
  obtain ⟨m, c⟩ := c
  simp [-List.getD_eq_getElem?_getD, and_assoc]
  refine ⟨hl.1, hl.2, fun h => by simp [Pl.rup, h], fun h => ⟨by omega, fun h1 => by rw [Pl.clause_same] at h1; simp [Pl.rup, h1], fun h1 => ⟨hp, ⟨m, h⟩, hl.1, hl.2, by simpa [Pl.nots] using hp, ?_⟩⟩⟩
  rw [Pl.clause_same] at h1
  have := Pl.units_same (Pl.cnfOk_mk h) 61 (Pl.nots cl) (Pl.nots_cons (Int.le_refl 0) h1).1
  show (Pl.unitsF Pl.scanI c 61 (Pl.nots cl)).2 = _
  rw [this]
  simp [Pl.rup, h, h1, Pl.unitsS])

theorem k_GrowII : SoundC Try.prog K_GrowII.1 K_GrowII.2 := sound_of hm CtxOK.nil (fun _ => []) (by kernel_rfl) fun (n : Int) hn => cast (vc_GrowII n) (by
  obtain ⟨h1, h2⟩ : 0 ≤ n ∧ n ≤ 4294967296 := hn
  rw [show IntKind.i64.wrap (((0 : Nat) : Int) - ((0 : Nat) : Int)) = 0 from rfl, Int.sub_zero, wrap_small (by omega) (by omega)]
  simp [-List.getD_eq_getElem?_getD, and_assoc]
  omega)

theorem k_ConcatII : SoundC Try.prog K_ConcatII.1 K_ConcatII.2 := sound_of hm (CtxOK.nil.and k_GrowII) A_ConcatII (by kernel_rfl) fun (ls : List (List (List Int))) hl => cast (vc_ConcatII ls) (by
  obtain ⟨ha, hb⟩ : ls.length ≤ 4 ∧ ∀ y ∈ ls, y.length ≤ 1073741824 := hl
  simp [-List.getD_eq_getElem?_getD, and_assoc]
  have bnd : ∀ x, Pl.sumLen (ls.take x) ≤ 4294967296 := fun x => by
    have h1 := Pl.sumLen_le (b := 1073741824) (ls.take x) fun y hy => hb y (List.mem_of_mem_take hy)
    have h2 : (ls.take x).length ≤ 4 := by simp; omega
    omega
  refine ⟨⟨0, by simp, rfl, rfl⟩, fun k hk => ⟨fun hlt => ?_, fun hge => ?_⟩⟩
  · have e := bnd (k + 1)
    have h0 := Pl.sumLen_nonneg (ls.take (k + 1))
    rw [Pl.take_succ_getD [] hlt, Pl.sumLen_snoc] at e h0
    rw [wrap_small (by omega) (by omega)]
    exact ⟨hlt, h0, fun _ => ⟨k + 1, hlt, by omega, by rw [Pl.take_succ_getD [] hlt, Pl.sumLen_snoc], by rw [wrap_small (by omega) (by omega)]; omega⟩⟩
  · refine ⟨_, Pl.sumLen_nonneg _, bnd k, rfl, ⟨0, by simp, [], rfl, rfl, rfl, by simp⟩, fun k b hk hb' => ⟨fun hlt => ?_, fun hge => ?_⟩⟩
    · have hb' : b = (ls.take k).flatten := hb'
      subst hb'
      have e := bnd (k + 1)
      rw [← Pl.sumLen_flat, Pl.take_succ_getD [] hlt] at e
      simp only [List.flatten_append, List.flatten_cons, List.flatten_nil, List.append_nil, List.length_append] at e
      exact ⟨hlt, by omega, k + 1, hlt, _, by show _ = _; rw [Pl.take_succ_getD [] hlt, List.flatten_append, List.flatten_cons, List.flatten_nil, List.append_nil], by omega, by simp, by rw [wrap_small (by omega) (by omega)]; omega, intss_join⟩
    · have hb' : b = (ls.take k).flatten := hb'
      rw [hb', List.take_of_length_le hge])

theorem k_sLogOk : SoundC Try.prog K_sLogOk.1 K_sLogOk.2 := sound_of hm ((CtxOK.nil.and k_sCnfRup).and k_sCnfOk) (fun (c, log) => A_sLogOk c log) (by kernel_rfl) fun (c, log) hl => cast (vc_sLogOk c log) (by
  obtain ⟨hl, hp, hq⟩ : SzC c ∧ Sz log ∧ ∀ y ∈ log, SzH y := hl
  obtain ⟨m, c⟩ := c
  simp [-List.getD_eq_getElem?_getD, and_assoc]
  obtain ⟨hl, h2⟩ := hl
  refine ⟨hl, h2, fun h => by simp [Pl.logOk, h], fun h => ⟨fun h1 => by simp [Pl.logOk, show ¬ log.length ≤ 130 by omega], fun h1 => ?_⟩⟩
  have hc : c.length ≤ 400 := by
    have := h
    simp only [Pl.cnfOk, Bool.and_eq_true, decide_eq_true_eq] at this
    exact this.1.2
  rw [wrap_small (by omega) (by omega)]
  refine ⟨fun h3 => by simp [Pl.logOk, show ¬ c.length + log.length ≤ 400 by omega], fun h3 => ⟨by omega, ⟨0, by simp, c, by show _ = _; simp, by simp [Pl.logOk, h, show log.length ≤ 130 by omega, show c.length + log.length ≤ 400 by omega], rfl, rfl, intss_join0'⟩, fun k b hk hb he => ⟨fun hlt => ?_, fun hge => ?_⟩⟩⟩
  · have hb : b = c ++ log.take k := hb
    subst hb
    rw [Pl.logAll_step _ hlt] at he
    refine ⟨hlt, by simp; omega, fun x hx => ?_, hq _ (getD_mem [] hlt), fun h4 => by rw [he, h4]; rfl, fun h4 => ⟨hlt, by simp; omega, k + 1, hlt, _, ?_, ?_, by omega, by rw [wrap_small (by omega) (by omega)]; omega, by simp; omega, intss_push⟩⟩
    · rcases List.mem_append.1 hx with h5 | h5
      · exact h2 x h5
      · have := hq x (List.mem_of_mem_take h5); omega
    · show _ = _; rw [Pl.take_succ_getD [] hlt, List.append_assoc]
    · rw [he, h4]; rfl
  · rw [he, Pl.logAll_end _ hge])

theorem k_iLogOk : SoundC Try.prog K_iLogOk.1 K_iLogOk.2 := sound_of hm (((CtxOK.nil.and k_ConcatII).and k_iCnfRup).and k_iCnfOk) (fun (c, log) => A_iLogOk c log) (by kernel_rfl) fun (c, log) hl => cast (vc_iLogOk c log) (by
  obtain ⟨hl, hp, hq⟩ : SzC c ∧ Sz log ∧ ∀ y ∈ log, SzH y := hl
  obtain ⟨m, c⟩ := c
  simp [-List.getD_eq_getElem?_getD, and_assoc]
  obtain ⟨hl, h2⟩ := hl
  refine ⟨hl, h2, fun h => by simp [Pl.logOk, h], fun h => ⟨fun h1 => by simp [Pl.logOk, show ¬ log.length ≤ 130 by omega], fun h1 => ?_⟩⟩
  have hc : c.length ≤ 400 := by
    have := h
    simp only [Pl.cnfOk, Bool.and_eq_true, decide_eq_true_eq] at this
    exact this.1.2
  rw [wrap_small (by omega) (by omega)]
  refine ⟨fun h3 => by simp [Pl.logOk, show ¬ c.length + log.length ≤ 400 by omega], fun h3 => ⟨by omega, by omega, ⟨0, by simp, by simp [Pl.logOk, h, show log.length ≤ 130 by omega, show c.length + log.length ≤ 400 by omega], rfl⟩, fun k hk he => ⟨fun hlt => ?_, fun hge => ?_⟩⟩⟩
  · rw [Pl.logAll_step _ hlt] at he
    rw [wrap_small (by omega) (by omega)]
    have e : ((c.length : Int) + (k : Int)).toNat = c.length + k := by omega
    rw [e]
    refine ⟨hlt, by omega, by omega, c ++ log.take k, ?_, by simp; omega, fun x hx => ?_, hq _ (getD_mem [] hlt), fun h4 => by rw [he, h4]; rfl, fun h4 => ⟨k + 1, hlt, by rw [he, h4]; rfl, by omega, by rw [wrap_small (by omega) (by omega)]; omega⟩⟩
    · rw [intss_take (by simp; omega), List.take_length_add_append]
    · rcases List.mem_append.1 hx with h5 | h5
      · exact h2 x h5
      · have := hq x (List.mem_of_mem_take h5); omega
  · rw [he, Pl.logAll_end _ hge])

theorem szL_le' : ∀ (l : List (List Int)) (k : Int), k ≤ 1048576 → 0 ≤ Pl.szL l k → ∀ x ∈ l, x.length ≤ 2147483648 := fun l k h1 h2 x hx => by
  have := szL_le l k h1 h2 x hx; omega
theorem szSS_le' {l : List (List Int)} {k : Int} (hk : k ≤ 1048576) (h : 0 ≤ Pl.szSS l k) : ∀ x ∈ l, SzH x := by
  unfold Pl.szSS at h
  split at h
  · exact absurd h (by decide)
  · exact szL_le' l _ (by omega) h

end Cg
