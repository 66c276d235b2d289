/-
  The codes' contracts: rows of rows. No condition.
-/
import Derived.Test.YtdlmjdnjenhnfaaRowsVc
import Derived.Test.YtdlmjdnjenhnfaaClauseLaw
set_option linter.unusedVariables false
set_option linter.unusedSimpArgs false
set_option maxRecDepth 100000
namespace Cg
open Go Go.Proofs

theorem k_szIntS : SoundC Try.prog K_szIntS.1 K_szIntS.2 := sc_of (by kernel_rfl) (c2_sound ints?_ok i64?_ok fun l k h => by
  replace h := h _ List.mem_cons_self
  refine pure_of hm CtxOK.nil [] (cast (vc_szIntS l k _) ?_)
  rw [wrap_small (by omega) (by omega)]
  simp only [condP_dec, avLe_int, i64, Pl.sz1]
  exact ⟨fun h => by rw [if_pos h], fun h => by rw [if_neg h]⟩)

theorem k_szIntSS : SoundC Try.prog K_szIntSS.1 K_szIntSS.2 := sc_of (by kernel_rfl) (c2_sound intss?_ok i64?_ok fun l k h => by
  obtain ⟨h1, h2, h3, h4⟩ := h _ List.mem_cons_self
  refine pure_of hm (CtxOK.nil.and k_szIntS) (A_szIntSS l k) (cast (vc_szIntSS l k _) ?_)
  rw [wrap_small (by omega) (by omega)]
  simp only [condP_dec, avLe_self, avLe_int, i64, true_and, and_true, implies_true, Int.toNat_natCast, Int.ofNat_lt, Ls.iv, rd_ints]
  refine ⟨fun h => by rw [Pl.szSS, if_pos h], fun h => ⟨⟨(0, k - l.length), ⟨Nat.zero_le _, by simp only; omega, by simp only; omega, by rw [Pl.szSS, if_neg h]; rfl⟩, rfl, rfl⟩, fun x hx => ?_⟩⟩
  obtain ⟨i, k⟩ := x
  obtain ⟨hi, h5, h6, he⟩ := hx
  simp only at hi h5 h6 he ⊢
  refine ⟨fun hlt => ?_, fun hge => ?_⟩
  · rw [drop_get [] hlt] at he
    have hx := h2 (l.getD i []) (by simp [hlt])
    simp only [Pl.szL] at he
    refine ⟨⟨by omega, hlt⟩, hlt, ⟨hx, h5, h6⟩, fun hn => ?_, fun hn => ⟨(i + 1, Pl.sz1 (l.getD i []).length k), ⟨hlt, by simp only; omega, ?_, ?_⟩, by simp only; omega, rfl, by rw [wrap_small (by omega) (by omega)]; simp⟩⟩
    · rw [he]
      unfold Pl.sz1 at hn
      split at hn
      · rename_i h; rw [if_pos h]
      · omega
    · simp only [Pl.sz1]; split <;> omega
    · simp only
      rw [he]
      unfold Pl.sz1 at hn ⊢
      split at hn
      · omega
      · rename_i h; rw [if_neg h, if_neg h]
  · rw [he, drop_end hge]
    rfl)

theorem k_toIntSS : SoundC Try.prog K_toIntSS.1 K_toIntSS.2 := im_of (by kernel_rfl) (c1_sound intss?_ok fun l h => by
  obtain ⟨h1, h2⟩ := h _ List.mem_cons_self
  refine pure_of hm (CtxOK.nil.and k_toIntS) (A_toIntSS l) (cast (vc_toIntSS l _) ?_)
  simp only [condP_dec, avLe_self, avLe_int, true_and, and_true, implies_true, Int.toNat_natCast, Int.ofNat_lt, Ls.iv, rd_ints, Nat.add_zero]
  refine ⟨by omega, by omega, by omega, by omega, ⟨0, Nat.zero_le _, rfl, fun i _ j hj => ?_⟩, fun k hk => ⟨fun hlt => ⟨⟨by omega, hlt⟩, hlt, h2 _ (by simp [hlt]), ⟨by omega, hlt⟩, hlt, k + 1, hlt, by omega, by rw [wrap_small (by omega) (by omega)]; simp, fun i hi j hj => ?_⟩, fun hge => ⟨by omega, ?_⟩⟩⟩
  · have : j = 0 := by omega
    subst this
    simp
  · rw [storeC_one _ _ _ _ _ hj]
    by_cases h : i = k
    · subst h
      rw [if_pos rfl, if_pos (by omega)]
    · rw [if_neg h]
      by_cases h' : i < k
      · rw [if_pos h', if_pos (by omega)]
      · rw [if_neg h', if_neg (by omega)]
  · unfold intss sl1
    rw [avLe_sl]
    refine ⟨rfl, rfl, fun i hi j _ => ?_⟩
    rw [if_pos (by omega)]
    rfl)

theorem k_eqIntSS : SoundC Try.prog K_eqIntSS.1 K_eqIntSS.2 := sc_of (by kernel_rfl) (c2_sound intss?_ok intss?_ok fun l m h => by
  obtain ⟨h1, h2⟩ := h _ List.mem_cons_self
  have hv := vc_eqIntSS l m fun r => avLe 0 r (bl (decide (l = m)))
  refine pure_of hm (CtxOK.nil.and k_eqIntS) (A_eqIntSS l m) ?_
  show awpF Try.prog [K_eqIntS] (A_eqIntSS l m) Nm.laws_eqIntSS [intss l, intss m] fun r => avLe 0 r (bl (decide (l = m)))
  rw [← hv]
  clear hv
  simp only [condP_iff, avLe_self, avLe_int, avLe_bool, bl, true_and, and_true, implies_true, Int.toNat_natCast, Int.ofNat_lt, decide_eq_true_eq, decide_eq_false_iff_not, bne_iff_ne, bne_eq_false_iff_eq, ne_eq, Int.ofNat_inj, Ls.iv, rd_ints,
    Bool.not_eq_true', Bool.not_eq_false']
  refine ⟨fun h => (decide_eq_false fun e => h (by rw [e])).symm, fun h => ⟨⟨0, ⟨Nat.zero_le _, h, Iff.rfl⟩, rfl⟩, fun k ⟨hk, hlm, he⟩ => ⟨fun hlt => ?_, fun hge => ?_⟩⟩⟩
  · rw [drop_get [] hlt, drop_get (l := m) [] (by omega)] at he
    refine ⟨⟨by omega, hlt⟩, hlt, ⟨by omega, by omega⟩, by omega, h2 _ (by simp [hlt]), fun h => ?_, fun h => ⟨k + 1, ⟨hlt, hlm, ?_⟩, by omega, by rw [wrap_small (by omega) (by omega)]; simp⟩⟩
    · refine (decide_eq_false fun e => h ?_).symm
      have := he.1 e
      injection this
    · rw [he, h]
      simp
  · rw [drop_end hge, drop_end (l := m) (by omega)] at he
    exact (decide_eq_true (he.2 rfl)).symm)

theorem logEnds_vc (l : List (List Int)) (h : l.length ≤ 4294967296) {c : Bool} (hc : c = true ↔ 0 < l.length) :
    condP c (((0 : Int) ≤ IntKind.i64.wrap ((l.length : Int) - 1) ∧ IntKind.i64.wrap ((l.length : Int) - 1) < l.length) ∧ (IntKind.i64.wrap ((l.length : Int) - 1)).toNat < l.length ∧
      avLe 0 (.v (.bool (((l.getD (IntKind.i64.wrap ((l.length : Int) - 1)).toNat []).length : Int) == 0))) (bl (Pl.logEnds l))) (avLe 0 (.v (.bool false)) (bl (Pl.logEnds l))) := by
  rw [wrap_small (by omega) (by omega)]
  rw [condP_iff]
  unfold bl Pl.logEnds
  simp only [avLe_bool]
  refine ⟨fun hp => ?_, fun hp => ?_⟩
  · have hp := hc.1 hp
    have e : ((l.length : Int) - 1).toNat = l.length - 1 := by omega
    rw [e, decide_eq_true hp]
    refine ⟨⟨by omega, by omega⟩, by omega, ?_⟩
    cases l.getD (l.length - 1) [] <;> simp
    omega
  · have : ¬ 0 < l.length := fun h => by rw [hc.2 h] at hp; cases hp
    rw [decide_eq_false this]
    rfl

theorem k_sLogEnds : SoundC Try.prog K_sLogEnds.1 K_sLogEnds.2 := sc_of (by kernel_rfl) (c1_sound intss?_ok fun l h =>
  pure_of hm CtxOK.nil [] (cast (vc_sLogEnds l _) (logEnds_vc l (h _ List.mem_cons_self) (by simp [List.length_pos_iff]))))
theorem k_iLogEnds : SoundC Try.prog K_iLogEnds.1 K_iLogEnds.2 := sc_of (by kernel_rfl) (c1_sound intss?_ok fun l h =>
  pure_of hm CtxOK.nil [] (cast (vc_iLogEnds l _) (logEnds_vc l (h _ List.mem_cons_self) (by simp [List.length_pos_iff]))))

theorem szL_le : ∀ (l : List (List Int)) (k : Int), k ≤ 1048576 → 0 ≤ Pl.szL l k → ∀ x ∈ l, x.length ≤ 1048576
  | [], _, _, _, x, h => by cases h
  | y :: l, k, hk, h, x, hx => by
    simp only [Pl.szL] at h
    split at h
    · omega
    · rename_i hn
      cases List.mem_cons.1 hx with
      | inl e => subst e; omega
      | inr e => exact szL_le l (k - y.length) (by omega) h x e
theorem szSS_le {l : List (List Int)} {k : Int} (hk : k ≤ 1048576) (h : ¬ Pl.szSS l k < 0) : l.length ≤ 1048576 ∧ ∀ x ∈ l, x.length ≤ 1048576 := by
  unfold Pl.szSS at h
  split at h
  · exact absurd (show (-1 : Int) < 0 by decide) h
  · exact ⟨by omega, szL_le l (k - l.length) (by omega) (by omega)⟩

theorem x_ClauseOk (l : List Int) (many : Int) : PureAt Try.prog Nm.laws_FnExactClauseOk [ints l, i64 many] (bl true) := by
  refine pure_of hm ((((CtxOK.nil.and k_eqIntS).and k_iClauseOk).and k_sClauseOk).and k_toIntS) [] (cast (vc_xClauseOk l many _) ?_)
  simp only [rd_ints, condP_dec, condP_iff, Ls.iv, avLe_bool, bl, implies_true, true_and, Pl.clause_same, Int.toNat_natCast, List.length_nil]
  refine fun h => ?_
  have h : l.length ≤ 1048576 := by
    have := of_decide_eq_false h
    omega
  have h' : l.length ≤ 4294967296 := by omega
  simp [h, h']

theorem x_LogEnds (l : List (List Int)) (h1 : l.length ≤ 9223372036854775807) (h2 : ∀ x ∈ l, x.length ≤ 9223372036854775807) : PureAt Try.prog Nm.laws_FnExactLogEnds [intss l] (bl true) := by
  refine pure_of hm (((((CtxOK.nil.and k_eqIntSS).and k_iLogEnds).and k_sLogEnds).and k_toIntSS).and k_szIntSS) [] (cast (vc_xLogEnds l _) ?_)
  simp only [rd_ints, rd_intss, lv_ints, condP_dec, condP_iff, Ls.iv, avLe_bool, bl, implies_true, true_and]
  refine ⟨⟨h1, h2, by omega, by omega⟩, fun h => ?_⟩
  obtain ⟨h3, h4⟩ := szSS_le (by decide) (of_decide_eq_false h)
  have h5 : l.length ≤ 4294967296 := by omega
  have h6 : ∀ x ∈ l, x.length ≤ 4294967296 := fun x hx => by have := h4 x hx; omega
  simp only [h5, beq_self_eq_true, Bool.not_true, decide_true, decide_false, forall_const, true_and, and_true, Bool.true_eq_false, false_implies, implies_true, reduceCtorEq]
  exact ⟨h6, h6, h6, h6⟩

end Cg
