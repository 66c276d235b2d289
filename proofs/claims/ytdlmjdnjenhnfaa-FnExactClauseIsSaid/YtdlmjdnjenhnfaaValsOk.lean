/-
  The codes' contracts: clauses under values. No condition.
-/
import Derived.Test.YtdlmjdnjenhnfaaValsVc
import Derived.Test.YtdlmjdnjenhnfaaRowsOk
set_option linter.unusedVariables false
set_option linter.unusedSimpArgs false
set_option maxRecDepth 100000
namespace Cg
open Go Go.Proofs

theorem k_toBoolS : SoundC Try.prog K_toBoolS.1 K_toBoolS.2 := im_of (by kernel_rfl) (c1_sound bools?_ok fun l hl => by
  replace hl := hl _ List.mem_cons_self
  refine pure_of hm CtxOK.nil (A_toBoolS l) (cast (vc_toBoolS l _) ?_)
  simp only [condP_dec, avLe_self, avLe_int, avLe_osl, bl, true_and, and_true, implies_true, Int.toNat_natCast, Int.ofNat_lt, Nat.add_zero]
  refine ⟨by omega, by omega, by omega, by omega, ⟨0, Nat.zero_le _, rfl, fun i _ j hj => ?_⟩, fun k hk => ⟨fun hlt => ⟨⟨by omega, hlt⟩, hlt, ⟨by omega, hlt⟩, hlt, k + 1, hlt, by omega, wrap_succ hlt hl, fun i hi j hj => ?_⟩, fun hge => ⟨by omega, ?_⟩⟩⟩
  · have : j = 0 := by omega
    subst this
    simp
  · rw [storeC_one _ _ _ _ _ hj]
    by_cases h : i = k
    · subst h
      rw [if_pos rfl, if_pos (by omega)]
    · rw [if_neg h]
      by_cases h' : i < k
      · rw [if_pos h', if_pos (by omega)]
      · rw [if_neg h', if_neg (by omega)]
  · unfold bools sl1
    rw [avLe_sl]
    refine ⟨rfl, rfl, fun i hi j _ => ?_⟩
    rw [if_pos (by omega)]
    rfl)

theorem k_eqBoolS : SoundC Try.prog K_eqBoolS.1 K_eqBoolS.2 := sc_of (by kernel_rfl) (c2_sound bools?_ok bools?_ok fun l m hl => by
  replace hl := hl _ List.mem_cons_self
  refine pure_of hm CtxOK.nil (A_eqBoolS l m) (cast (vc_eqBoolS l m _) ?_)
  simp only [condP_iff, avLe_self, avLe_int, avLe_bool, bl, true_and, and_true, implies_true, Int.toNat_natCast, Int.ofNat_lt, decide_eq_true_eq, decide_eq_false_iff_not, bne_iff_ne, bne_eq_false_iff_eq, ne_eq, Int.ofNat_inj,
    Bool.not_eq_true', Bool.not_eq_false', beq_eq_false_iff_ne, beq_iff_eq]
  refine ⟨fun h => (decide_eq_false fun e => h (by rw [e])).symm, fun h => ⟨⟨0, ⟨Nat.zero_le _, h, Iff.rfl⟩, rfl⟩, fun k ⟨hk, hlm, he⟩ => ⟨fun hlt => ?_, fun hge => ?_⟩⟩⟩
  · rw [drop_get false hlt, drop_get (l := m) false (by omega)] at he
    refine ⟨⟨by omega, hlt⟩, hlt, ⟨by omega, by omega⟩, by omega, fun h => ?_, fun h => ⟨k + 1, ⟨hlt, hlm, ?_⟩, by omega, wrap_succ hlt hl⟩⟩
    · refine (decide_eq_false fun e => h ?_).symm
      have := he.1 e
      injection this
    · rw [he, h]
      simp
  · rw [drop_end hge, drop_end (l := m) (by omega)] at he
    exact (decide_eq_true (he.2 rfl)).symm)

theorem k_l10Is : SoundC Try.prog K_l10Is.1 K_l10Is.2 := sc_of (by kernel_rfl) (c2_sound i64?_ok bools?_ok fun x v hl => by
  replace hl := hl _ List.mem_cons_self
  refine pure_of hm CtxOK.nil [] (cast (vc_l10Is x v _) ?_)
  rw [wrap_small (x := 0 - (v.length : Int)) (by omega) (by omega)]
  simp only [condP_iff, avLe_bool, bl, Pl.lIs, beq_iff_eq, beq_eq_false_iff_ne, ne_eq, decide_eq_true_eq, decide_eq_false_iff_not]
  refine ⟨fun h => by rw [if_pos (.inl h)], fun h1 => ⟨fun h => by rw [if_pos (.inr (.inl h))], fun h2 => ⟨fun h => by rw [if_pos (.inr (.inr (by omega)))], fun h3 => ⟨fun h4 => ?_, fun h4 => ?_⟩⟩⟩⟩
  · rw [wrap_small (by omega) (by omega), if_neg (by omega), if_pos h4]
    exact ⟨by omega, by omega, rfl⟩
  · rw [wrap_small (by omega) (by omega), if_neg (by omega), if_neg h4]
    exact ⟨by omega, by omega, rfl⟩)

theorem k_isTrue : SoundC Try.prog K_isTrue.1 K_isTrue.2 := sc_of (by kernel_rfl) (c2_sound i64?_ok bools?_ok fun x v hl => by
  replace hl := hl _ List.mem_cons_self
  refine pure_of hm ((CtxOK.nil.and k_variable).and k_within) [] (cast (vc_isTrue x v _) ?_)
  rw [wrap_small (x := 0 - (v.length : Int)) (by omega) (by omega)]
  simp only [condP_iff, avLe_bool, bl, Pl.lIs, Pl.withinI, beq_iff_eq, beq_eq_false_iff_ne, ne_eq, decide_eq_true_eq, decide_eq_false_iff_not, true_and, Bool.not_eq_true', Bool.not_eq_false', Bool.and_eq_true, Bool.and_eq_false_iff]
  refine ⟨fun h => by rw [if_pos (.inl h)], fun h1 => ⟨fun h => by rw [if_pos (by omega)], fun h2 => ?_⟩⟩
  have hv : Pl.varI x = if x < 0 then -x else x := by
    unfold Pl.varI
    rw [Pl.wneg_small (by omega) (by omega)]
    split <;> split <;> omega
  have hc : ¬ (x = 0 ∨ x > (v.length : Int) ∨ x < -(v.length : Int)) := by omega
  rw [if_neg hc, hv]
  by_cases hx : x < 0
  · rw [if_pos hx, if_pos hx, wrap_small (by omega) (by omega)]
    have e : (-x - 1).toNat = (-1 - x).toNat := by omega
    refine ⟨by omega, by omega, ?_⟩
    rw [e, decide_eq_false (by omega)]
    cases v.getD (-1 - x).toNat false <;> rfl
  · rw [if_neg hx, if_neg hx, wrap_small (by omega) (by omega)]
    refine ⟨by omega, by omega, ?_⟩
    rw [decide_eq_true (by omega)]
    cases v.getD (x - 1).toNat false <;> rfl)

theorem k_sClauseIs : SoundC Try.prog K_sClauseIs.1 K_sClauseIs.2 := sc_of (by kernel_rfl) (c2_sound ints?_ok bools?_ok fun l v hl => by
  obtain ⟨hl, hv⟩ := hl _ List.mem_cons_self
  refine pure_of hm (CtxOK.nil.and k_l10Is) (A_sClauseIs l v) (cast (vc_sClauseIs l v _) ?_)
  simp only [condP_iff, avLe_self, avLe_int, avLe_bool, bl, true_and, and_true, implies_true, Int.toNat_natCast, Int.ofNat_lt, decide_eq_true_eq, decide_eq_false_iff_not, bne_iff_ne, bne_eq_false_iff_eq, ne_eq, rd_bools, Ls.bv]
  refine ⟨⟨0, ⟨Nat.zero_le _, rfl⟩, rfl⟩, fun k ⟨hk, he⟩ => ⟨fun hlt => ?_, fun hge => ?_⟩⟩
  · rw [drop_get 0 hlt] at he
    have step : Pl.lIs (l.getD k 0) v = false → ∃ x' : Nat, (x' ≤ l.length ∧ Pl.clauseIs l v = Pl.clauseIs (l.drop x') v) ∧ l.length - x' < l.length - k ∧ IntKind.i64.wrap ((k : Int) + 1) = x' := fun h =>
      ⟨k + 1, ⟨hlt, by rw [he]; simp only [Pl.clauseIs, List.any_cons, h, Bool.false_or]⟩, by omega, wrap_succ hlt hl⟩
    refine ⟨⟨by omega, hlt⟩, hlt, fun h1 => ⟨⟨by omega, hlt⟩, hlt, hv, fun h2 => ?_, fun h2 => step h2⟩, fun h1 => step ?_⟩
    · rw [he]; simp only [Pl.clauseIs, List.any_cons, h2, Bool.true_or]
    · rw [h1]; simp [Pl.lIs]
  · rw [he, drop_end hge]; rfl)

theorem k_ClauseIs1 : SoundC Try.prog K_ClauseIs1.1 K_ClauseIs1.2 := sc_of (by kernel_rfl) (c2_sound i64?_ok (ref1?_ok _ _) fun x v hl => by
  replace hl := hl _ List.mem_cons_self
  refine pure_of hm (CtxOK.nil.and k_isTrue) [] (cast (vc_ClauseIs1 x v _) ?_)
  simp only [Ls.bv, rd_bools, implies_true, true_and, hl, bl, avLe_bool, and_true]
  try omega)

theorem lv_bools (l : List Bool) : Ls.lv Ls.bv (.sl l.length 1 fun i _ => .v (.bool (l.getD i false))) = l := rd_bools l

theorem idx_lt {α : Type} (p : α → Bool) : ∀ l : List α, -1 ≤ Pl.idx p l
  | [] => by simp [Pl.idx]
  | x :: l => by have := idx_lt p l; simp only [Pl.idx]; split <;> (try split) <;> omega

theorem k_IndexClauseIs : SoundC Try.prog K_IndexClauseIs.1 K_IndexClauseIs.2 := sc_of (by kernel_rfl) (c2_sound ints?_ok (fn1?_ok _ (ref1?_ok _ _)) fun l v hl => by
  obtain ⟨hl, hv⟩ := hl _ List.mem_cons_self
  refine pure_of hm (CtxOK.nil.and k_ClauseIs1) (A_IndexClauseIs l v) (cast (vc_IndexClauseIs l v _) ?_)
  simp only [condP_iff, avLe_self, avLe_int, i64, true_and, and_true, implies_true, Int.toNat_natCast, Int.ofNat_lt, decide_eq_true_eq, decide_eq_false_iff_not, lv_bools, hv]
  refine ⟨⟨0, ⟨Nat.zero_le _, ?_⟩, rfl⟩, fun k ⟨hk, he⟩ => ⟨fun hlt => ⟨⟨by omega, hlt⟩, hlt, fun h1 => ?_, fun h1 => ⟨k + 1, ⟨hlt, ?_⟩, by omega, wrap_succ hlt hl⟩⟩, fun hge => ?_⟩⟩
  · have := idx_lt (fun x => Pl.lIs x v) l
    simp only [List.drop_zero]
    split <;> omega
  · rw [he, drop_get 0 hlt]
    simp only [Pl.idx, h1, if_true]
    simp
  · rw [he, drop_get 0 hlt]
    have := idx_lt (fun x => Pl.lIs x v) (l.drop (k + 1))
    simp only [Pl.idx, h1, Bool.false_eq_true, if_false]
    split
    · simp
    · split <;> omega
  · rw [he, drop_end hge]
    simp [Pl.idx])

theorem idx_any {α : Type} (p : α → Bool) : ∀ l : List α, decide (Pl.idx p l ≥ 0) = l.any p
  | [] => by simp [Pl.idx]
  | x :: l => by
    have h := idx_any p l
    have := idx_lt p l
    simp only [Pl.idx, List.any_cons]
    by_cases hp : p x = true
    · simp [hp]
    · simp only [hp, Bool.false_eq_true, if_false, Bool.false_or]
      rw [← h]
      by_cases hq : Pl.idx p l < 0
      · rw [if_pos hq, decide_eq_false (by omega), decide_eq_false (by omega)]
      · rw [if_neg hq, decide_eq_true (by omega), decide_eq_true (by omega)]

theorem k_ContainsClauseIs : SoundC Try.prog K_ContainsClauseIs.1 K_ContainsClauseIs.2 := sc_of (by kernel_rfl) (c2_sound ints?_ok (fn1?_ok _ (ref1?_ok _ _)) fun l v hl => by
  obtain ⟨hl, hv⟩ := hl _ List.mem_cons_self
  refine pure_of hm (CtxOK.nil.and k_IndexClauseIs) [] (cast (vc_ContainsClauseIs l v _) ?_)
  simp only [lv_bools, rd_ints, Ls.iv, implies_true, true_and, hl, hv, bl, avLe_bool, idx_any, Pl.clauseIs])

theorem k_iClauseIs : SoundC Try.prog K_iClauseIs.1 K_iClauseIs.2 := sc_of (by kernel_rfl) (c2_sound ints?_ok bools?_ok fun l v hl => by
  obtain ⟨hl, hv⟩ := hl _ List.mem_cons_self
  refine pure_of hm (CtxOK.nil.and k_ContainsClauseIs) [] (cast (vc_iClauseIs l v _) ?_)
  simp only [lv_bools, rd_ints, Ls.iv, implies_true, true_and, hl, hv, bl, avLe_bool])

theorem x_ClauseIs (l : List Int) (v : List Bool) : PureAt Try.prog Nm.laws_FnExactClauseIs [ints l, bools v] (bl true) := by
  refine pure_of hm ((((((CtxOK.nil.and k_eqBoolS).and k_eqIntS).and k_iClauseIs).and k_sClauseIs).and k_toBoolS).and k_toIntS) [] (cast (vc_xClauseIs l v _) ?_)
  simp only [rd_ints, rd_bools, lv_bools, condP_iff, Ls.iv, Ls.bv, avLe_bool, bl, implies_true, true_and, decide_eq_true_eq, decide_eq_false_iff_not]
  refine fun h1 h2 => ?_
  have h3 : l.length ≤ 4294967296 := by omega
  have h4 : v.length ≤ 4294967296 := by omega
  simp [h3, h4]

end Cg
