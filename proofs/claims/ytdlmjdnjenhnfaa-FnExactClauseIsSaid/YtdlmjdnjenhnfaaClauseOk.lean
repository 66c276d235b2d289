/-
  The codes' contracts: clauses. No condition.
-/
import Derived.Test.YtdlmjdnjenhnfaaClauseVc
set_option linter.unusedVariables false
set_option linter.unusedSimpArgs false
namespace Cg
open Go Go.Proofs

theorem hm : Try.prog.follows .mixedOrders = true := by kernel_rfl
theorem CtxOK.and {P : Program} {k : Nat × Contract} {Γ : Ctx} (hΓ : CtxOK P Γ) (h : SoundC P k.1 k.2) : CtxOK P (k :: Γ) := CtxOK.cons h hΓ
theorem len_of {p : Prop} {q : Prop} (h : ∀ x ∈ [p], x) : p := h p List.mem_cons_self

theorem k_l10Abs : SoundC Try.prog K_l10Abs.1 K_l10Abs.2 := sc_of (by kernel_rfl) (c1_sound i64?_ok fun x _ => by
  refine pure_of hm CtxOK.nil [] (cast (vc_l10Abs x _) ?_)
  simp only [condP_dec, avLe_int, i64, Pl.absW, Pl.wneg]
  refine ⟨fun h => by simp [h], fun h => ⟨fun h' => ?_, fun h' => ⟨fun h'' => ?_, fun h'' => ?_⟩⟩⟩
  · rw [if_neg h, if_pos (by omega)]
  · rw [if_neg h, if_neg (by omega), if_pos h'']
  · rw [if_neg h, if_neg (by omega), if_neg h''])

theorem k_within : SoundC Try.prog K_within.1 K_within.2 := sc_of (by kernel_rfl) (c3_sound i64?_ok i64?_ok i64?_ok fun x y z _ => by
  refine pure_of hm CtxOK.nil [] (cast (vc_within x y z _) ?_)
  simp only [condP_iff, avLe_bool, bl, Pl.withinI]
  exact ⟨fun h => by rw [h]; rfl, fun h => by rw [h]; rfl⟩)

theorem k_isMark : SoundC Try.prog K_isMark.1 K_isMark.2 := sc_of (by kernel_rfl) (c2_sound i64?_ok i64?_ok fun x y _ => by
  refine pure_of hm (CtxOK.nil.and k_within) [] (cast (vc_isMark x y _) ?_)
  simp only [condP_iff, avLe_bool, bl, Pl.isMark, Pl.wneg]
  exact ⟨fun h => by simp at h; simp [h], fun h => by simp at h; simp [h]⟩)

theorem k_variable : SoundC Try.prog K_variable.1 K_variable.2 := sc_of (by kernel_rfl) (c1_sound i64?_ok fun x _ =>
  pure_of hm CtxOK.nil [] (cast (vc_variable x _) (avLe_int.2 rfl)))

theorem wrap_succ {k n : Nat} (h : k < n) (hn : n ≤ 4294967296) : IntKind.i64.wrap ((k : Int) + 1) = ((k + 1 : Nat) : Int) := by
  rw [wrap_small (by omega) (by omega)]; omega

theorem k_sClauseOk : SoundC Try.prog K_sClauseOk.1 K_sClauseOk.2 := sc_of (by kernel_rfl) (c2_sound ints?_ok i64?_ok fun l many hl => by
  replace hl := hl _ List.mem_cons_self
  refine pure_of hm (CtxOK.nil.and k_l10Abs) (A_sClauseOk l many) (cast (vc_sClauseOk l many _) ?_)
  simp only [condP_dec, avLe_self, avLe_int, avLe_bool, bl, true_and, and_true, implies_true, Int.toNat_natCast, Int.ofNat_lt]
  refine ⟨⟨(0, 0), ⟨Nat.zero_le _, rfl⟩, rfl, rfl⟩, fun x hx => ?_⟩
  obtain ⟨k, last⟩ := x
  obtain ⟨hk, he⟩ := hx
  simp only at hk he ⊢
  refine ⟨fun hlt => ?_, fun hge => ?_⟩
  · rw [drop_get 0 hlt] at he
    refine ⟨⟨by omega, hlt⟩, hlt, fun h1 => ?_, fun h1 => ⟨⟨by omega, hlt⟩, hlt, fun h2 => ?_, fun h2 => ⟨⟨by omega, hlt⟩, hlt, (k + 1, Pl.absW (l.getD k 0)), ⟨hlt, ?_⟩, by simp only; omega, rfl, wrap_succ hlt hl⟩⟩⟩
    · rw [he]; simp only [Pl.specLoop, decide_eq_true h1]; rfl
    · rw [he]; simp only [Pl.specLoop, decide_eq_true h2, Bool.or_true]; rfl
    · rw [he]; simp only [Pl.specLoop, decide_eq_false h1, decide_eq_false h2]; rfl
  · rw [drop_end hge] at he
    rw [he]
    simp only [Pl.specLoop]
    exact ⟨fun h => by rw [decide_eq_true h]; rfl, fun h => by rw [decide_eq_false h]; rfl⟩)

theorem prev_zero (l : List Int) : Pl.prev l 0 = none := rfl
theorem prev_pos (l : List Int) {k : Nat} (h : 0 < k) : Pl.prev l k = some (l.getD (k - 1) 0) := by
  unfold Pl.prev
  rw [if_neg (by omega)]

theorem k_iClauseOk : SoundC Try.prog K_iClauseOk.1 K_iClauseOk.2 := sc_of (by kernel_rfl) (c2_sound ints?_ok i64?_ok fun l many hl => by
  replace hl := hl _ List.mem_cons_self
  refine pure_of hm (((CtxOK.nil.and k_variable).and k_isMark).and k_within) (A_iClauseOk l many) (cast (vc_iClauseOk l many _) ?_)
  simp only [condP_iff, avLe_self, avLe_int, avLe_bool, bl, true_and, and_true, implies_true, Int.toNat_natCast, Int.ofNat_lt, Bool.not_eq_true', Bool.not_eq_false', decide_eq_true_eq, decide_eq_false_iff_not]
  refine ⟨fun h => by rw [Pl.implClause, h]; rfl, fun h => ⟨⟨0, ⟨Nat.zero_le _, by rw [Pl.implClause, h]; rfl⟩, rfl⟩, fun k ⟨hk, he⟩ => ⟨fun hlt => ?_, fun hge => ?_⟩⟩⟩
  · rw [drop_get 0 hlt] at he
    have step : Pl.implClause l many = Pl.implLoop many (some (l.getD k 0)) (l.drop (k + 1)) → ∃ x' : Nat, (x' ≤ l.length ∧ Pl.implClause l many = Pl.implLoop many (Pl.prev l x') (l.drop x')) ∧ l.length - x' < l.length - k ∧ IntKind.i64.wrap ((k : Int) + 1) = x' := fun h => ⟨k + 1, ⟨hlt, h⟩, by omega, wrap_succ hlt hl⟩
    refine ⟨⟨by omega, hlt⟩, hlt, fun h1 => ?_, fun h1 => ⟨fun h2 => ?_, fun h2 => ?_⟩⟩
    · rw [he]
      cases Pl.prev l k <;> simp only [Pl.implLoop, h1] <;> rfl
    · have h2 : 0 < k := by omega
      have e2 : IntKind.i64.wrap ((k : Int) - 1) = ((k - 1 : Nat) : Int) := by rw [wrap_small (by omega) (by omega)]; omega
      rw [e2]
      simp only [Int.toNat_natCast]
      rw [prev_pos l h2] at he
      refine ⟨by omega, by omega, fun h3 => ?_, fun h3 => step ?_⟩
      · rw [he]
        simp only [Pl.implLoop, h1, decide_eq_true h3]
        rfl
      · rw [he]
        simp only [Pl.implLoop, h1, decide_eq_false h3]
        rfl
    · have h2 : k = 0 := by omega
      subst h2
      refine step ?_
      rw [he, prev_zero]
      simp only [Pl.implLoop, h1]
      rfl
  · rw [drop_end hge] at he
    rw [he]
    cases Pl.prev l k <;> rfl)

theorem k_toIntS : SoundC Try.prog K_toIntS.1 K_toIntS.2 := im_of (by kernel_rfl) (c1_sound ints?_ok fun l hl => by
  replace hl := hl _ List.mem_cons_self
  refine pure_of hm CtxOK.nil (A_toIntS l) (cast (vc_toIntS l _) ?_)
  simp only [condP_dec, avLe_self, avLe_int, avLe_osl, bl, true_and, and_true, implies_true, Int.toNat_natCast, Int.ofNat_lt, Nat.add_zero]
  refine ⟨by omega, by omega, by omega, by omega, ⟨0, Nat.zero_le _, rfl, fun i _ j hj => ?_⟩, fun k hk => ⟨fun hlt => ⟨⟨by omega, hlt⟩, hlt, ⟨by omega, hlt⟩, hlt, k + 1, hlt, by omega, wrap_succ hlt hl, fun i hi j hj => ?_⟩, fun hge => ⟨by omega, ?_⟩⟩⟩
  · have : j = 0 := by omega
    subst this
    simp
  · rw [storeC_one _ _ _ _ _ hj]
    by_cases h : i = k
    · subst h
      rw [if_pos rfl, if_pos (by omega)]
    · rw [if_neg h]
      by_cases h' : i < k
      · rw [if_pos h', if_pos (by omega)]
      · rw [if_neg h', if_neg (by omega)]
  · unfold ints sl1
    rw [avLe_sl]
    refine ⟨rfl, rfl, fun i hi j _ => ?_⟩
    rw [if_pos (by omega)]
    rfl)

theorem k_eqIntS : SoundC Try.prog K_eqIntS.1 K_eqIntS.2 := sc_of (by kernel_rfl) (c2_sound ints?_ok ints?_ok fun l m hl => by
  replace hl := hl _ List.mem_cons_self
  have hv := vc_eqIntS l m fun r => avLe 0 r (bl (decide (l = m)))
  refine pure_of hm CtxOK.nil (A_eqIntS l m) ?_
  show awpF Try.prog [] (A_eqIntS l m) Nm.laws_eqIntS [ints l, ints m] fun r => avLe 0 r (bl (decide (l = m)))
  rw [← hv]
  clear hv
  simp only [condP_iff, avLe_self, avLe_int, avLe_bool, bl, true_and, and_true, implies_true, Int.toNat_natCast, Int.ofNat_lt, decide_eq_true_eq, decide_eq_false_iff_not, bne_iff_ne, bne_eq_false_iff_eq, ne_eq, Int.ofNat_inj]
  refine ⟨fun h => (decide_eq_false fun e => h (by rw [e])).symm, fun h => ⟨⟨0, ⟨Nat.zero_le _, h, Iff.rfl⟩, rfl⟩, fun k ⟨hk, hlm, he⟩ => ⟨fun hlt => ?_, fun hge => ?_⟩⟩⟩
  · rw [drop_get 0 hlt, drop_get (l := m) 0 (by omega)] at he
    refine ⟨⟨by omega, hlt⟩, hlt, ⟨by omega, by omega⟩, by omega, fun h => ?_, fun h => ⟨k + 1, ⟨hlt, hlm, ?_⟩, by omega, wrap_succ hlt hl⟩⟩
    · refine (decide_eq_false fun e => h ?_).symm
      have := he.1 e
      injection this
    · rw [he, h]
      simp
  · rw [drop_end hge, drop_end (l := m) (by omega)] at he
    exact (decide_eq_true (he.2 rfl)).symm)

end Cg
