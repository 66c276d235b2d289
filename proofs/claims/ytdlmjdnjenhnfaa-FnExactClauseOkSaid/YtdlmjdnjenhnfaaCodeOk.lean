/-
  The codes' contracts: clauses. No condition.
-/
import Derived.Test.YtdlmjdnjenhnfaaCodeVc
set_option linter.all false
namespace Cg
open Go Go.Proofs

theorem hm : Try.prog.follows .mixedOrders = true := by kernel_rfl

theorem wrap_small {x : Int} (h1 : -9223372036854775808 ≤ x) (h2 : x < 9223372036854775808) : IntKind.i64.wrap x = x := by
  simp only [IntKind.wrap, IntKind.signed, IntKind.bits]
  simp
  omega

theorem storeC_one (cell : Nat → Nat → AV) (i i' j' : Nat) (a : AV) (hj : j' < 1) : storeC cell i 0 [a] i' j' = if i' = i then a else cell i' 0 := by
  have : j' = 0 := by omega
  subst this
  unfold storeC
  cases hb : Nat.beq i' i
  · have h : ¬ i' = i := fun h => by
      rw [h, Nat.beq_refl] at hb
      cases hb
    rw [if_neg h]
    rfl
  · rw [if_pos (Nat.eq_of_beq_eq_true hb)]
    rfl

theorem s58 : SoundF Try.prog 58 F58 := by
  intro args p r h hp
  unfold F58 at h
  split at h
  · rename_i x
    simp only [ok, Option.some.injEq, Prod.mk.injEq] at h
    obtain ⟨rfl, rfl⟩ := h
    refine pure_of hm CtxOK.nil [] (cast (vc_l10Abs x _) ?_)
    simp only [condP_iff, avLe, i64, Pl.absW, Pl.wneg, true_and, decide_eq_true_eq, decide_eq_false_iff_not]
    refine ⟨fun h => by simp [h], fun h => ⟨fun h' => ?_, fun h' => ⟨fun h'' => ?_, fun h'' => ?_⟩⟩⟩
    · rw [if_neg h, if_pos (by omega)]
    · rw [if_neg h, if_neg (by omega), if_pos h'']
    · rw [if_neg h, if_neg (by omega), if_neg h'']
  · cases h

theorem s59 : SoundF Try.prog 59 F59 := by
  intro args p r h hp
  unfold F59 at h
  split at h
  · rename_i x y z
    simp only [ok, Option.some.injEq, Prod.mk.injEq] at h
    obtain ⟨rfl, rfl⟩ := h
    refine pure_of hm CtxOK.nil [] (cast (vc_within x y z _) ?_)
    simp only [condP_iff, avLe, bl, Pl.withinI]
    exact ⟨fun h => by rw [h]; rfl, fun h => by rw [h]; rfl⟩
  · cases h

theorem c59 : SoundC Try.prog 59 (.sc F59) := sc_of (by kernel_rfl) s59
theorem c58 : SoundC Try.prog 58 (.sc F58) := sc_of (by kernel_rfl) s58

theorem s60 : SoundF Try.prog 60 F60 := by
  intro args p r h hp
  unfold F60 at h
  split at h
  · rename_i x y
    simp only [ok, Option.some.injEq, Prod.mk.injEq] at h
    obtain ⟨rfl, rfl⟩ := h
    refine pure_of hm (CtxOK.nil.cons c59) [] (cast (vc_isMark x y _) ?_)
    simp only [condP_iff, avLe, bl, Pl.isMark, Pl.wneg]
    exact ⟨fun h => by simp at h; simp [h], fun h => by simp at h; simp [h]⟩
  · cases h

theorem s61 : SoundF Try.prog 61 F61 := by
  intro args p r h hp
  unfold F61 at h
  split at h
  · rename_i x
    simp only [ok, Option.some.injEq, Prod.mk.injEq] at h
    obtain ⟨rfl, rfl⟩ := h
    exact pure_of hm CtxOK.nil [] (cast (vc_variable x _) ⟨rfl, rfl⟩)
  · cases h

theorem c60 : SoundC Try.prog 60 (.sc F60) := sc_of (by kernel_rfl) s60
theorem c61 : SoundC Try.prog 61 (.sc F61) := sc_of (by kernel_rfl) s61

theorem avLe_refl_sl (g n e : Nat) (c : Nat → Nat → AV) : avLe g (.sl n e c) (.sl n e c) := ⟨rfl, rfl, fun _ _ _ _ => rfl⟩

theorem drop_get {l : List Int} {k : Nat} (h : k < l.length) : l.drop k = l.getD k 0 :: l.drop (k + 1) := by
  rw [List.drop_eq_getElem_cons h]
  simp [h]

theorem w18 (l : List Int) (many : Int) (hl : l.length ≤ 1048576) : PureAt Try.prog 18 [ints l, i64 many] (bl (Pl.specClause l many)) := by
  refine pure_of hm (CtxOK.nil.cons c58) (A18 l many) (cast (vc_specClauseOk l many _) ?_)
  refine ⟨⟨(0, 0), ⟨Nat.zero_le _, rfl⟩, ⟨avLe_refl_sl _ _ _ _, ⟨rfl, rfl⟩, ⟨rfl, rfl⟩, ⟨rfl, rfl⟩, trivial⟩, trivial⟩, fun x hx => ?_⟩
  obtain ⟨k, last⟩ := x
  obtain ⟨hk, he⟩ := hx
  simp only at hk he ⊢
  rw [condP_iff]
  refine ⟨fun hlt => ?_, fun hge => ?_⟩
  · have hlt : k < l.length := by simpa using hlt
    rw [drop_get hlt] at he
    have e : ((k : Int)).toNat = k := by simp
    simp only [e]
    refine ⟨by omega, hlt, ?_⟩
    rw [condP_iff]
    refine ⟨fun h1 => ?_, fun h1 => ⟨by omega, hlt, ?_⟩⟩
    · simp only [avLe, bl]
      rw [he]
      simp only [Pl.specLoop, h1]
      rfl
    rw [condP_iff]
    refine ⟨fun h2 => ?_, fun h2 => ⟨by omega, hlt, (k + 1, Pl.absW (l.getD k 0)), ⟨hlt, ?_⟩, by simp only; omega, ⟨avLe_refl_sl _ _ _ _, ⟨rfl, rfl⟩, ⟨rfl, rfl⟩, ⟨rfl, ?_⟩, trivial⟩, trivial⟩⟩
    · simp only [avLe, bl]
      rw [he]
      simp only [Pl.specLoop, h2]
      simp
    · rw [he]
      simp only [Pl.specLoop, h1, h2]
      rfl
    · rw [wrap_small (by omega) (by omega)]
      simp
  · have hge : ¬ k < l.length := by simpa using hge
    have : l.drop k = [] := List.drop_eq_nil_of_le (by omega)
    rw [this] at he
    rw [condP_iff]
    simp only [avLe, bl, he, Pl.specLoop]
    exact ⟨fun h => by rw [h]; rfl, fun h => by rw [h]; rfl⟩

theorem prev_zero (l : List Int) : Pl.prev l 0 = none := rfl
theorem prev_succ (l : List Int) (k : Nat) : Pl.prev l (k + 1) = some (l.getD k 0) := rfl


theorem prev_pos (l : List Int) {k : Nat} (h : 0 < k) : Pl.prev l k = some (l.getD (k - 1) 0) := by
  unfold Pl.prev
  rw [if_neg (by omega)]

theorem w20 (l : List Int) (many : Int) (hl : l.length ≤ 1048576) : PureAt Try.prog 20 [ints l, i64 many] (bl (Pl.implClause l many)) := by
  refine pure_of hm (((CtxOK.nil.cons c61).cons c60).cons c59) (A20 l many) (cast (vc_implClauseOk l many _) ?_)
  rw [condP_iff]
  refine ⟨fun h => ?_, fun h => ⟨⟨0, ⟨Nat.zero_le _, ?_⟩, ⟨avLe_refl_sl _ _ _ _, ⟨rfl, rfl⟩, avLe_refl_sl _ _ _ _, ⟨rfl, rfl⟩, ⟨rfl, rfl⟩, trivial⟩, trivial⟩, fun k hx => ?_⟩⟩
  · simp only [avLe, bl, Pl.implClause]
    have : Pl.withinI many 0 60 = false := by simpa using h
    rw [this]; rfl
  · have : Pl.withinI many 0 60 = true := by simpa using h
    simp only [Pl.implClause, this, prev_zero]
    rfl
  obtain ⟨hk, he⟩ := hx
  rw [condP_iff]
  refine ⟨fun hlt => ?_, fun hge => ?_⟩
  · have hlt : k < l.length := by simpa using hlt
    rw [drop_get hlt] at he
    have e : ((k : Int)).toNat = k := by simp
    simp only [e]
    refine ⟨by omega, hlt, ?_⟩
    rw [condP_iff]
    have step : Pl.implClause l many = Pl.implLoop many (Pl.prev l (k + 1)) (l.drop (k + 1)) → ∃ x' : Nat, (x' ≤ l.length ∧ Pl.implClause l many = Pl.implLoop many (Pl.prev l x') (l.drop x')) ∧ l.length - x' < l.length - k ∧
        (avLe 0 (ints l) (ints l) ∧ avLe 0 (i64 many) (i64 many) ∧ avLe 0 (ints l) (ints l) ∧ avLe 0 (i64 l.length) (i64 l.length) ∧ avLe 0 (i64 (IntKind.i64.wrap ((k : Int) + 1))) (i64 x') ∧ True) ∧ True := fun h =>
      ⟨k + 1, ⟨hlt, h⟩, by omega, ⟨avLe_refl_sl _ _ _ _, ⟨rfl, rfl⟩, avLe_refl_sl _ _ _ _, ⟨rfl, rfl⟩, ⟨rfl, by rw [wrap_small (by omega) (by omega)]; simp⟩, trivial⟩, trivial⟩
    refine ⟨fun h1 => ?_, fun h1 => ?_⟩
    · simp only [avLe, bl]
      rw [he]
      cases Pl.prev l k with
      | none => simp only [Pl.implLoop, h1]; rfl
      | some p => simp only [Pl.implLoop, h1]; rfl
    rw [condP_iff]
    refine ⟨fun h2 => ?_, fun h2 => ?_⟩
    · have h2 : 0 < k := by simpa using h2
      have e2 : (IntKind.i64.wrap ((k : Int) - 1)).toNat = k - 1 := by rw [wrap_small (by omega) (by omega)]; omega
      rw [e2]
      refine ⟨by rw [wrap_small (by omega) (by omega)]; omega, by omega, ?_⟩
      rw [condP_iff]
      rw [prev_pos l h2] at he
      refine ⟨fun h3 => ?_, fun h3 => step ?_⟩
      · simp only [avLe, bl]
        rw [he]
        simp only [Pl.implLoop, h1, h3]
        rfl
      · rw [he]
        simp only [Pl.implLoop, h1, h3]
        rfl
    · have h2 : k = 0 := by simpa using h2
      subst h2
      refine step ?_
      rw [he, prev_zero]
      simp only [Pl.implLoop, h1]
      rfl
  · have hge : ¬ k < l.length := by simpa using hge
    have : l.drop k = [] := List.drop_eq_nil_of_le (by omega)
    rw [this] at he
    simp only [avLe, bl]
    rw [he]
    cases Pl.prev l k <;> rfl

theorem w19 (l : List Int) (hl : l.length ≤ 1048576) : PureAt Try.prog 19 [ints l] (ints l) := by
  refine pure_of hm CtxOK.nil (A19 l) (cast (vc_toIntS l _) ?_)
  refine ⟨by omega, by omega, by omega, by omega, ⟨0, Nat.zero_le _, ⟨avLe_refl_sl _ _ _ _, ⟨rfl, rfl, by simp⟩, ⟨rfl, rfl⟩, trivial⟩, ⟨by simp, rfl, fun i _ j hj => ?_⟩, trivial⟩, fun k hk => ?_⟩
  · have : j = 0 := by omega
    subst this
    simp
  rw [condP_iff]
  refine ⟨fun hlt => ?_, fun hge => ⟨by omega, rfl, rfl, fun i hi j _ => ?_⟩⟩
  · have hlt : k < l.length := by simpa using hlt
    have e : ((k : Int)).toNat = k := by simp
    rw [e]
    refine ⟨by omega, hlt, by omega, by omega, k + 1, hlt, by omega, ⟨avLe_refl_sl _ _ _ _, ⟨rfl, rfl, rfl⟩, ⟨rfl, by rw [wrap_small (by omega) (by omega)]; simp⟩, trivial⟩, ⟨rfl, rfl, fun i hi j hj => ?_⟩, trivial⟩
    rw [storeC_one _ _ _ _ _ hj]
    simp only [Nat.add_zero]
    by_cases h : i = k
    · subst h
      rw [if_pos rfl, if_pos (by omega)]
    · rw [if_neg h]
      by_cases h' : i < k
      · rw [if_pos h', if_pos (by omega)]
      · rw [if_neg h', if_neg (by omega)]
  · have hge : ¬ k < l.length := by simpa using hge
    simp only [Nat.add_zero]
    rw [if_pos (by omega)]

theorem w21 (l m : List Int) (hl : l.length ≤ 1048576) : PureAt Try.prog 21 [ints l, ints m] (bl (decide (l = m))) := by
  have hv := vc_eqIntS l m fun r => avLe 0 r (bl (decide (l = m)))
  refine pure_of hm CtxOK.nil (A21 l m) ?_
  rw [← hv]
  clear hv
  rw [condP_iff]
  refine ⟨fun h => ?_, fun h => ⟨⟨0, ⟨Nat.zero_le _, ?_, Iff.rfl⟩, ⟨avLe_refl_sl _ _ _ _, avLe_refl_sl _ _ _ _, ⟨rfl, rfl⟩, trivial⟩, trivial⟩, fun k hx => ?_⟩⟩
  · have h : ¬ l.length = m.length := by
      intro e
      simp [e] at h
    simp only [avLe, bl]
    exact (decide_eq_false fun e => h (by rw [e])).symm
  · have h : (l.length : Int) = m.length := by simpa using h
    omega
  obtain ⟨hk, hlm, he⟩ := hx
  rw [condP_iff]
  refine ⟨fun hlt => ?_, fun hge => ?_⟩
  · have hlt : k < l.length := by simpa using hlt
    have e : ((k : Int)).toNat = k := by simp
    simp only [e]
    refine ⟨by omega, hlt, by omega, by omega, ?_⟩
    rw [drop_get hlt, drop_get (l := m) (by omega)] at he
    rw [condP_iff]
    refine ⟨fun h => ?_, fun h => ⟨k + 1, ⟨hlt, hlm, ?_⟩, by omega, ⟨avLe_refl_sl _ _ _ _, avLe_refl_sl _ _ _ _, ⟨rfl, by rw [wrap_small (by omega) (by omega)]; simp⟩, trivial⟩, trivial⟩⟩
    · have h : ¬ l.getD k 0 = m.getD k 0 := by simpa using h
      simp only [avLe, bl]
      refine (decide_eq_false fun e => h ?_).symm
      have := he.1 e
      injection this
    · have h : l.getD k 0 = m.getD k 0 := by simpa using h
      rw [he, h]
      simp
  · have hge : ¬ k < l.length := by simpa using hge
    rw [List.drop_eq_nil_of_le (by omega), List.drop_eq_nil_of_le (by omega)] at he
    simp only [avLe, bl]
    exact (decide_eq_true (he.2 rfl)).symm

theorem frLe_one {a : AV} {l : List Int} (h : avLe 0 a (ints l)) {xs bs : List AV} (hs : frLe 0 xs bs) : frLe 0 (a :: xs) (ints l :: bs) := ⟨h, hs⟩
theorem frLe_i64 (x : Int) {xs bs : List AV} (hs : frLe 0 xs bs) : frLe 0 (.v (.int .i64 x) :: xs) (i64 x :: bs) := ⟨⟨rfl, rfl⟩, hs⟩

theorem s18 : SoundF Try.prog 18 F18 := by
  intro args p r h hp
  unfold F18 at h
  split at h
  · rename_i a m
    split at h
    · rename_i q l hq
      simp only [Option.some.injEq, Prod.mk.injEq] at h
      obtain ⟨rfl, rfl⟩ := h
      obtain ⟨h1, h2⟩ := ints?_le hq (hp _ (by simp))
      exact (w18 l m (hp _ (by simp))).args (by simp [belowL, h1, below]) (frLe_one h2 (frLe_i64 _ trivial))
    · cases h
  · cases h

theorem s20 : SoundF Try.prog 20 F20 := by
  intro args p r h hp
  unfold F20 at h
  split at h
  · rename_i a m
    split at h
    · rename_i q l hq
      simp only [Option.some.injEq, Prod.mk.injEq] at h
      obtain ⟨rfl, rfl⟩ := h
      obtain ⟨h1, h2⟩ := ints?_le hq (hp _ (by simp))
      exact (w20 l m (hp _ (by simp))).args (by simp [belowL, h1, below]) (frLe_one h2 (frLe_i64 _ trivial))
    · cases h
  · cases h

theorem s19 : SoundF Try.prog 19 F19 := by
  intro args p r h hp
  unfold F19 at h
  split at h
  · rename_i a
    split at h
    · rename_i q l hq
      simp only [Option.some.injEq, Prod.mk.injEq] at h
      obtain ⟨rfl, rfl⟩ := h
      obtain ⟨h1, h2⟩ := ints?_le hq (hp _ (by simp))
      exact (w19 l (hp _ (by simp))).args (by simp [belowL, h1]) (frLe_one h2 trivial)
    · cases h
  · cases h

theorem s21 : SoundF Try.prog 21 F21 := by
  intro args p r h hp
  unfold F21 at h
  split at h
  · rename_i a b
    split at h
    · rename_i q l q' m hq hq'
      simp only [Option.some.injEq, Prod.mk.injEq] at h
      obtain ⟨rfl, rfl⟩ := h
      obtain ⟨h1, h2⟩ := ints?_le hq (hp _ (by simp))
      obtain ⟨h3, h4⟩ := ints?_le hq' (hp _ (by simp))
      exact (w21 l m (hp _ (by simp))).args (by simp [belowL, h1, h3]) (frLe_one h2 (frLe_one h4 trivial))
    · cases h
  · cases h

theorem c18 : SoundC Try.prog 18 (.sc F18) := sc_of (by kernel_rfl) s18
theorem c19 : SoundC Try.prog 19 (.im F19) := im_of (by kernel_rfl) s19
theorem c20 : SoundC Try.prog 20 (.sc F20) := sc_of (by kernel_rfl) s20
theorem c21 : SoundC Try.prog 21 (.sc F21) := sc_of (by kernel_rfl) s21

end Cg
