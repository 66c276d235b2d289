/-
  The codes' contracts: valid models. No condition.
-/
import Derived.Test.YtjhiaobcbbnhnaaGreatMokVc
import Derived.Test.YtjhiaobcbbnhnaaGreatModelOk
set_option linter.unusedVariables false
set_option linter.unusedSimpArgs false
set_option maxRecDepth 100000
set_option maxHeartbeats 1000000
namespace Pl
open Go Cg
theorem bl_asymm : ∀ {x y : List UInt8}, Op.bytesLess x y = true → Op.bytesLess y x = false
  | [], [], _ => rfl
  | _ :: _, [], h => by cases h
  | [], _ :: _, _ => rfl
  | a :: x, b :: y, h => by
    simp only [Op.bytesLess, Bool.or_eq_true, decide_eq_true_eq, Bool.and_eq_true, beq_iff_eq] at h
    simp only [Op.bytesLess, Bool.or_eq_false_iff, decide_eq_false_iff_not, Bool.and_eq_false_iff]
    rcases h with h | ⟨h, h1⟩
    · exact ⟨fun h2 => by simp only [UInt8.lt_iff_toNat_lt] at h h2; omega, .inl (by simp only [beq_eq_false_iff_ne]; intro e; subst e; simp only [UInt8.lt_iff_toNat_lt] at h; omega)⟩
    · subst h
      exact ⟨fun h2 => by simp only [UInt8.lt_iff_toNat_lt] at h2; omega, .inr (bl_asymm h1)⟩
theorem bl_total : ∀ {x y : List UInt8}, Op.bytesLess x y = false → Op.bytesLess y x = false → x = y
  | [], [], _, _ => rfl
  | [], _ :: _, h, _ => by cases h
  | _ :: _, [], _, h => by cases h
  | a :: x, b :: y, h, h' => by
    simp only [Op.bytesLess, Bool.or_eq_false_iff, decide_eq_false_iff_not, Bool.and_eq_false_iff, beq_eq_false_iff_ne] at h h'
    have e : a = b := by
      have h1 := h.1
      have h2 := h'.1
      simp only [UInt8.lt_iff_toNat_lt] at h1 h2
      exact UInt8.toNat_inj.1 (by omega)
    subst e
    have h1 : Op.bytesLess x y = false := by rcases h.2 with h | h <;> simp_all
    have h2 : Op.bytesLess y x = false := by rcases h'.2 with h | h <;> simp_all
    rw [bl_total h1 h2]
theorem bl_irrefl (x : List UInt8) : Op.bytesLess x x = false := by
  cases h : Op.bytesLess x x with
  | false => rfl
  | true => rw [bl_asymm h] at h; cases h
theorem tl_inj' {a b : ByteArray} (h : a.toList = b.toList) : a = b := Cg.tl_inj.1 h
theorem cmpS_zero {a b : ByteArray} : cmpS a b = 0 ↔ a = b := by
  unfold cmpS sLess
  constructor
  · intro h
    cases h1 : Op.bytesLess a.toList b.toList <;> simp only [h1, if_true, if_false] at h
    · cases h2 : Op.bytesLess b.toList a.toList <;> simp only [h2] at h
      · exact tl_inj' (bl_total h1 h2)
      · simp at h
    · simp at h
  · rintro rfl; simp [bl_irrefl]
theorem cmpS_neg {a b : ByteArray} : cmpS a b < 0 ↔ sLess a b = true := by
  unfold cmpS
  cases h1 : sLess a b <;> simp
  split <;> omega
theorem cmpI_zero {a b : Int} : cmpI a b = 0 ↔ a = b := by unfold cmpI; split <;> (try split) <;> omega
theorem cmpI_neg {a b : Int} : cmpI a b < 0 ↔ a < b := by unfold cmpI; split <;> (try split) <;> omega
theorem ratOk_iff {x : Rt} : ratOk x = true ↔ -1000000000 ≤ x.1 ∧ x.1 ≤ 1000000000 ∧ 1 ≤ x.2 ∧ x.2 ≤ 1000000000 ∧ Nat.gcd x.1.natAbs x.2.natAbs = 1 := by
  simp only [ratOk, Bool.and_eq_true, decide_eq_true_eq, and_assoc]
theorem rat_eq {x y : Rt} (hx : ratOk x = true) (hy : ratOk y = true) (h : x.1 * y.2 = y.1 * x.2) : x = y := by
  obtain ⟨a, b⟩ := x
  obtain ⟨c, d⟩ := y
  obtain ⟨h1, h2, h3, h4, h5⟩ := ratOk_iff.1 hx
  obtain ⟨k1, k2, k3, k4, k5⟩ := ratOk_iff.1 hy
  dsimp only at *
  have hn : a.natAbs * d.natAbs = c.natAbs * b.natAbs := by rw [← Int.natAbs_mul, ← Int.natAbs_mul, h]
  have hbd : b.natAbs ∣ d.natAbs := Nat.Coprime.dvd_of_dvd_mul_left (m := a.natAbs) (Nat.coprime_comm.1 h5) (hn ▸ Nat.dvd_mul_left _ _)
  have hdb : d.natAbs ∣ b.natAbs := Nat.Coprime.dvd_of_dvd_mul_left (m := c.natAbs) (Nat.coprime_comm.1 k5) (hn ▸ Nat.dvd_mul_left _ _)
  have hbd' : b.natAbs = d.natAbs := Nat.dvd_antisymm hbd hdb
  have e : b = d := by omega
  subst e
  exact Prod.ext (Int.eq_of_mul_eq_mul_right (by omega) h) rfl
theorem cmpRat_zero {x y : Rt} (hx : ratOk x = true) (hy : ratOk y = true) : cmpRat x y = 0 ↔ x = y := by
  constructor
  · intro h
    unfold cmpRat ratLess at h
    rw [hx, hy] at h
    simp only [Bool.and_true, Bool.true_and, decide_eq_true_eq] at h
    apply rat_eq hx hy
    split at h
    · omega
    · split at h
      · omega
      · omega
  · rintro rfl
    have : ratLess x x = false := by unfold ratLess; simp
    unfold cmpRat; rw [this]; rfl
theorem cmpRat_neg {x y : Rt} : cmpRat x y < 0 ↔ ratLess x y = true := by
  unfold cmpRat
  cases ratLess x y <;> simp
  split <;> omega
theorem cmpArgs_neg : ∀ {a b : List Rt}, a.length = b.length → a.all ratOk = true → b.all ratOk = true → (cmpArgs a b < 0 ↔ argsLess a b = true)
  | [], [], _, _, _ => by simp [cmpArgs, argsLess]
  | [], _ :: _, h, _, _ => by simp at h
  | _ :: _, [], h, _, _ => by simp at h
  | x :: a, y :: b, h, ha, hb => by
    simp only [List.all_cons, Bool.and_eq_true] at ha hb
    simp only [cmpArgs, argsLess, cmpRat_zero ha.1 hb.1]
    split
    · exact cmpArgs_neg (by simpa using h) ha.2 hb.2
    · exact cmpRat_neg
theorem rowOk_iff {x : Rw} : rowOk x = true ↔ nameOk x.1 = true ∧ x.2.1.length ≤ 2 ∧ ratOk x.2.2 = true ∧ x.2.1.all ratOk = true := by
  simp only [rowOk, Bool.and_eq_true, decide_eq_true_eq, and_assoc]
theorem cmpRows_neg {x y : Rw} (hx : rowOk x = true) (hy : rowOk y = true) : cmpRows x y < 0 ↔ rowLess x y = true := by
  have ha := (rowOk_iff.1 hx).2.2.2
  have hb := (rowOk_iff.1 hy).2.2.2
  unfold cmpRows rowLess
  simp only [orI, cmpS_zero, cmpI_zero]
  by_cases h1 : x.1 = y.1
  · rw [if_pos h1, if_pos h1]
    by_cases h2 : x.2.1.length = y.2.1.length
    · rw [if_pos (by omega), if_pos h2]
      have := cmpArgs_neg h2 ha hb
      split
      · rename_i h3; rw [← this, h3]
      · exact this
    · rw [if_neg (by omega), if_neg h2, cmpI_neg]
      simp only [decide_eq_true_eq]; omega
  · rw [if_neg h1, if_neg h1]; exact cmpS_neg
end Pl
namespace Cg
open Go Go.Proofs Pl

theorem k_l1Abs : SoundC Tryz.prog K_l1Abs.1 K_l1Abs.2 := sound_of hm CtxOK.nil (fun _ => []) (by kernel_rfl) fun (x : Int) hl => (by
  rw [← vc_l1Abs x]
  simp [-List.getD_eq_getElem?_getD, -List.mem_cons, -Bool.forall_bool, -Bool.exists_bool, and_assoc, peta, tl_inj, ex_1, ex_2, ex_3, ex_4, ex_5, ex_6, ex_7, ex_8, ex_9, ey_2, ey_3, ey_4, ey_5, ey_6, ey_7, ey_8, ey_9]
  unfold abs1
  refine ⟨fun h => by rw [if_pos (.inl h)], fun h => ⟨fun h2 => by rw [if_pos (.inr h2)], fun h2 => ⟨fun h3 => ?_, fun h3 => ?_⟩⟩⟩
  · rw [if_neg (by omega), if_pos h3, wrap_small (by omega) (by omega)]
  · rw [if_neg (by omega), if_neg (by omega)])

theorem gcd_step {u v n : Nat} (g1 : u ≤ 4611686018427387904) (g2 : v ≤ 4611686018427387904) (g3 : u.gcd v = n) : (0 < v →
      ¬v = 0 ∧
        ∃ a_2 : Nat, a_2 ≤ 4611686018427387904 ∧ ∃ x : Nat, x ≤ 4611686018427387904 ∧ a_2.gcd x = n ∧ x < v ∧ (v : Int) = (a_2 : Int) ∧ (u : Int).tmod (v : Int) = (x : Int)) ∧
    (v = 0 → (u : Int) = (n : Int)) := by
  refine ⟨fun h => ⟨by omega, v, g2, u % v, ?_, ?_, Nat.mod_lt _ h, rfl, (Int.ofNat_tmod u v).symm⟩, fun h => ?_⟩
  · have := Nat.mod_lt u h; omega
  · rw [← g3, Nat.gcd_comm v, Nat.gcd_comm u, ← Nat.gcd_rec]
  · subst h; rw [Nat.gcd_zero_right] at g3; rw [g3]

theorem k_l1Gcd : SoundC Tryz.prog K_l1Gcd.1 K_l1Gcd.2 := sound_of hm CtxOK.nil (fun x => A_l1Gcd x.1 x.2) (by kernel_rfl) fun (x : Nat × Nat) hl => (by
  obtain ⟨h1, h2⟩ : x.1 ≤ 4611686018427387904 ∧ x.2 ≤ 4611686018427387904 := hl
  obtain ⟨a, b⟩ := x
  rw [← vc_l1Gcd a b]
  dsimp only at *
  refine ⟨⟨(a, b), ⟨h1, h2, rfl⟩, ⟨rfl, rfl, trivial⟩, trivial⟩, fun (u, v) ⟨g1, g2, g3⟩ => ?_⟩
  dsimp only at *
  simp [-List.getD_eq_getElem?_getD, -List.mem_cons, -Bool.forall_bool, -Bool.exists_bool, and_assoc, peta, tl_inj, ex_1, ex_2, ex_3, ex_4, ex_5, ex_6, ex_7, ex_8, ex_9, ey_2, ey_3, ey_4, ey_5, ey_6, ey_7, ey_8, ey_9]
  exact gcd_step g1 g2 g3)

theorem k_gcd : SoundC Tryz.prog K_gcd.1 K_gcd.2 := sound_of hm CtxOK.nil (fun x => A_gcd x.1 x.2) (by kernel_rfl) fun (x : Int × Int) hl => (by
  obtain ⟨h1, h2⟩ : x.1.natAbs ≤ 4611686018427387904 ∧ x.2.natAbs ≤ 4611686018427387904 := hl
  obtain ⟨a, b⟩ := x
  rw [← vc_gcd a b]
  dsimp only at *
  rw [wrap_small (x := 0 - a) (by omega) (by omega), wrap_small (x := 0 - b) (by omega) (by omega)]
  refine ⟨⟨(a.natAbs, b.natAbs), ⟨h1, h2, rfl⟩, ⟨by split <;> omega, by split <;> omega, trivial⟩, trivial⟩, fun (u, v) ⟨g1, g2, g3⟩ => ?_⟩
  dsimp only at *
  simp [-List.getD_eq_getElem?_getD, -List.mem_cons, -Bool.forall_bool, -Bool.exists_bool, and_assoc, peta, tl_inj, ex_1, ex_2, ex_3, ex_4, ex_5, ex_6, ex_7, ex_8, ex_9, ey_2, ey_3, ey_4, ey_5, ey_6, ey_7, ey_8, ey_9]
  exact gcd_step g1 g2 g3)

theorem k_sRatOk : SoundC Tryz.prog K_sRatOk.1 K_sRatOk.2 := sound_of hm ((CtxOK.nil.and k_l1Gcd).and k_l1Abs) (fun _ => []) (by kernel_rfl) fun (x : Rt) hl => (by
  rw [← vc_sRatOk x]
  obtain ⟨a, b⟩ := x
  dsimp only at *
  simp [-List.getD_eq_getElem?_getD, -List.mem_cons, -Bool.forall_bool, -Bool.exists_bool, and_assoc, peta, tl_inj, ex_1, ex_2, ex_3, ex_4, ex_5, ex_6, ex_7, ex_8, ex_9, ey_2, ey_3, ey_4, ey_5, ey_6, ey_7, ey_8, ey_9]
  have no : (ratOk (a, b) = true → False) → ratOk (a, b) = false := fun h => by cases h1 : ratOk (a, b) with
    | false => rfl
    | true => exact (h h1).elim
  have e : abs1 a ≤ 1000000000 ↔ -1000000000 ≤ a ∧ a ≤ 1000000000 := by unfold abs1; split <;> (try split) <;> omega
  refine ⟨fun h1 => ⟨fun h2 => ⟨fun h3 => ?_, fun h3 => no fun h => ?_⟩, fun h2 => no fun h => ?_⟩, fun h1 => no fun h => ?_⟩
  · obtain ⟨u1, u2⟩ := e.1 h1
    refine ⟨a.natAbs, ?_, b.natAbs, by omega, by omega, by omega, ?_⟩
    · unfold abs1; rw [if_neg (by omega)]; split <;> omega
    · unfold ratOk
      simp only
      rw [decide_eq_true u1, decide_eq_true u2, decide_eq_true h2, decide_eq_true h3, Bool.beq_eq_decide_eq]
      simp only [Bool.true_and]
      congr 1
      simp only [eq_iff_iff]; omega
  all_goals
    have := ratOk_iff.1 h
    dsimp only at this
    omega)

theorem k_iRatOk : SoundC Tryz.prog K_iRatOk.1 K_iRatOk.2 := sound_of hm ((CtxOK.nil.and k_gcd).and k_within) (fun _ => []) (by kernel_rfl) fun (x : Rt) hl => (by
  rw [← vc_iRatOk x]
  obtain ⟨a, b⟩ := x
  dsimp only at *
  simp [-List.getD_eq_getElem?_getD, -List.mem_cons, -Bool.forall_bool, -Bool.exists_bool, and_assoc, peta, tl_inj, ex_1, ex_2, ex_3, ex_4, ex_5, ex_6, ex_7, ex_8, ex_9, ey_2, ey_3, ey_4, ey_5, ey_6, ey_7, ey_8, ey_9]
  simp only [withinI, Bool.and_eq_true, decide_eq_true_eq, Bool.and_eq_false_iff, decide_eq_false_iff_not]
  have no : (ratOk (a, b) = true → False) → ratOk (a, b) = false := fun h => by cases h1 : ratOk (a, b) with
    | false => rfl
    | true => exact (h h1).elim
  refine ⟨fun h1 => ⟨fun h2 => ⟨by omega, by omega, ?_⟩, fun h2 => no fun h => ?_⟩, fun h1 => no fun h => ?_⟩
  · unfold ratOk
    simp only
    rw [decide_eq_true h1.1, decide_eq_true h1.2, decide_eq_true h2.1, decide_eq_true h2.2, Bool.beq_eq_decide_eq]
    simp only [Bool.true_and]
    congr 1
    simp only [eq_iff_iff]; omega
  all_goals
    have := ratOk_iff.1 h
    dsimp only at this
    omega)

theorem less_vc (x : Rt × Rt) : (Exists fun (x_1 : Pl.Rt) =>
 ((x.fst.fst = x_1.fst ∧ x.fst.snd = x_1.snd ∧ True) ∧ True) ∧
 True ∧
 condP (Pl.ratOk x_1)
 (Exists fun (x_2 : Pl.Rt) =>
 ((x.snd.fst = x_2.fst ∧ x.snd.snd = x_2.snd ∧ True) ∧ True) ∧
 True ∧
 condP (Pl.ratOk x_2) (Decidable.decide (IntKind.i64.wrap (x.fst.fst * x.snd.snd) < IntKind.i64.wrap (x.snd.fst * x.fst.snd)) = Pl.ratLess x.fst x.snd)
 (Bool.false = Pl.ratLess x.fst x.snd))
 (Bool.false = Pl.ratLess x.fst x.snd)) := by
  obtain ⟨⟨a, b⟩, c, d⟩ := x
  dsimp only at *
  simp [-List.getD_eq_getElem?_getD, -List.mem_cons, -Bool.forall_bool, -Bool.exists_bool, and_assoc, peta, tl_inj, ex_1, ex_2, ex_3, ex_4, ex_5, ex_6, ex_7, ex_8, ex_9, ey_2, ey_3, ey_4, ey_5, ey_6, ey_7, ey_8, ey_9]
  refine ⟨fun h => ⟨fun h2 => ?_, fun h2 => by unfold ratLess; rw [h2]; simp⟩, fun h => by unfold ratLess; rw [h]; simp⟩
  obtain ⟨h1, h2', h3, h4, h5⟩ := ratOk_iff.1 h
  obtain ⟨k1, k2, k3, k4, k5⟩ := ratOk_iff.1 h2
  unfold ratLess
  rw [h, h2]
  dsimp only at *
  have w : ∀ {p q : Int}, -1000000000 ≤ p → p ≤ 1000000000 → 1 ≤ q → q ≤ 1000000000 → IntKind.i64.wrap (p * q) = p * q := fun {p q} e1 e2 e3 e4 => by
    have u1 : p * q ≤ 1000000000 * q := Int.mul_le_mul_of_nonneg_right e2 (by omega)
    have u2 : -1000000000 * q ≤ p * q := Int.mul_le_mul_of_nonneg_right e1 (by omega)
    exact wrap_small (by omega) (by omega)
  rw [w h1 h2' k3 k4, w k1 k2 h3 h4]
  simp
theorem k_sRatLess : SoundC Tryz.prog K_sRatLess.1 K_sRatLess.2 := sound_of hm (CtxOK.nil.and k_sRatOk) (fun _ => []) (by kernel_rfl) fun (x : Rt × Rt) hl => (by
  rw [← vc_sRatLess x]; exact less_vc x)
theorem k_iRatLess : SoundC Tryz.prog K_iRatLess.1 K_iRatLess.2 := sound_of hm (CtxOK.nil.and k_iRatOk) (fun _ => []) (by kernel_rfl) fun (x : Rt × Rt) hl => (by
  rw [← vc_iRatLess x]; exact less_vc x)
theorem k_compareRats : SoundC Tryz.prog K_compareRats.1 K_compareRats.2 := sound_of hm (CtxOK.nil.and k_iRatLess) (fun _ => []) (by kernel_rfl) fun (x : Rt × Rt) hl => (by
  rw [← vc_compareRats x]
  obtain ⟨⟨a, b⟩, c, d⟩ := x
  dsimp only at *
  simp [-List.getD_eq_getElem?_getD, -List.mem_cons, -Bool.forall_bool, -Bool.exists_bool, and_assoc, peta, tl_inj, ex_1, ex_2, ex_3, ex_4, ex_5, ex_6, ex_7, ex_8, ex_9, ey_2, ey_3, ey_4, ey_5, ey_6, ey_7, ey_8, ey_9]
  unfold cmpRat
  refine ⟨fun h => by rw [if_pos h], fun h => ⟨fun h2 => by rw [if_neg (by rw [h]; simp), if_pos h2], fun h2 => by rw [h, h2]; rfl⟩⟩)

theorem all_stepR {α : Type} (d : α) (p : α → Bool) {l : List α} {k : Nat} (hk : k < l.length) (he : l.all p = (l.drop k).all p) : (p (l.getD k d) = false → l.all p = false) ∧ (p (l.getD k d) = true → l.all p = (l.drop (k + 1)).all p) := by
  rw [drop_get d hk, List.all_cons] at he
  exact ⟨fun h => by rw [he, h]; rfl, fun h => by rw [he, h]; rfl⟩

theorem k_l7Row : SoundC Tryz.prog K_l7Row.1 K_l7Row.2 := sound_of hm ((CtxOK.nil.and k_sNameOk).and k_sRatOk) (fun x => A_l7Row x) (by kernel_rfl) fun (x : Rw) hl => (by
  rw [← vc_l7Row x]
  obtain ⟨h1, h2⟩ : x.1.size ≤ 1048576 ∧ x.2.1.length ≤ 1048576 := hl
  obtain ⟨nm, args, v⟩ := x
  dsimp only at *
  simp [-List.getD_eq_getElem?_getD, -List.mem_cons, -Bool.forall_bool, -Bool.exists_bool, and_assoc, peta, tl_inj, ex_1, ex_2, ex_3, ex_4, ex_5, ex_6, ex_7, ex_8, ex_9, ey_2, ey_3, ey_4, ey_5, ey_6, ey_7, ey_8, ey_9]
  refine ⟨⟨0, by simp, by simp, rfl⟩, fun k hk he => ⟨fun hlt => ?_, fun hge => ?_⟩⟩
  · obtain ⟨e1, e2⟩ := all_stepR dQ ratOk hlt he
    exact ⟨hlt, fun h => by simp [rowOk, e1 h], fun h => ⟨k + 1, hlt, e2 h, by omega, wrap_small (by omega) (by omega)⟩⟩
  · rw [drop_end (by omega)] at he
    simp only [rowOk]
    rw [he]
    refine ⟨h1, fun h => ⟨fun h3 => ?_, fun h3 => ?_⟩, fun h => by rw [h]; rfl⟩
    · rw [h, decide_eq_true (by omega : args.length ≤ 2)]; simp
    · rw [decide_eq_false (by omega : ¬ args.length ≤ 2)]; simp)

theorem less_step {a b : List Rt} {k : Nat} (h1 : k < a.length) (h2 : k < b.length) : argsLess (a.drop k) (b.drop k) = if a.getD k dQ = b.getD k dQ then argsLess (a.drop (k + 1)) (b.drop (k + 1)) else ratLess (a.getD k dQ) (b.getD k dQ) := by
  rw [drop_get dQ h1, drop_get dQ h2]; rfl

theorem k_l7Less : SoundC Tryz.prog K_l7Less.1 K_l7Less.2 := sound_of hm (CtxOK.nil.and k_sRatLess) (fun x => A_l7Less x.1 x.2) (by kernel_rfl) fun (x : Rw × Rw) hl => (by
  rw [← vc_l7Less x]
  have h1 : x.1.2.1.length ≤ 1048576 := hl
  obtain ⟨⟨nm, args, u1, u2⟩, nm', args', u1', u2'⟩ := x
  dsimp only at *
  simp [-List.getD_eq_getElem?_getD, -List.mem_cons, -Bool.forall_bool, -Bool.exists_bool, and_assoc, peta, tl_inj, ex_1, ex_2, ex_3, ex_4, ex_5, ex_6, ex_7, ex_8, ex_9, ey_2, ey_3, ey_4, ey_5, ey_6, ey_7, ey_8, ey_9]
  unfold rowLess
  dsimp only
  refine ⟨fun h => by rw [if_neg h]; rfl, fun h => ⟨fun h3 => by rw [if_pos h, if_neg (by omega)], fun h3 => ?_⟩⟩
  rw [if_pos h, if_pos (by omega)]
  refine ⟨⟨0, by simp, by omega, by simp, rfl⟩, fun k hk he hs => ⟨fun hlt => ?_, fun hge => ?_⟩⟩
  · rw [less_step hlt (by omega)] at hs
    refine ⟨hlt, by omega, fun h4 => ⟨hlt, by omega, ?_⟩, fun h4 h5 => ⟨k + 1, hlt, he, ?_, by omega, wrap_small (by omega) (by omega)⟩⟩
    · rw [hs, if_neg]
      intro e; rw [e] at h4; simp at h4
    · rw [hs, if_pos (Prod.ext h4 h5)]
  · rw [hs, drop_end (by omega)]; rfl)

theorem k_RowOk1 : SoundC Tryz.prog K_RowOk1.1 K_RowOk1.2 := sound_of hm (CtxOK.nil.and k_iRatOk) (fun _ => []) (by kernel_rfl) fun (x : Rt) hl => (by
  rw [← vc_RowOk1 x]
  simp [-List.getD_eq_getElem?_getD, -List.mem_cons, -Bool.forall_bool, -Bool.exists_bool, and_assoc, peta, tl_inj, ex_1, ex_2, ex_3, ex_4, ex_5, ex_6, ex_7, ex_8, ex_9, ey_2, ey_3, ey_4, ey_5, ey_6, ey_7, ey_8, ey_9])

theorem k_IndexRat : SoundC Tryz.prog K_IndexRat.1 K_IndexRat.2 := sound_of hm (CtxOK.nil.and k_RowOk1) (fun x => A_IndexRat x) (by kernel_rfl) fun (l : List Rt) hl => (by
  rw [← vc_IndexRat l]
  replace hl : Sz l := hl
  simp [-List.getD_eq_getElem?_getD, -List.mem_cons, -Bool.forall_bool, -Bool.exists_bool, and_assoc, peta, tl_inj, ex_1, ex_2, ex_3, ex_4, ex_5, ex_6, ex_7, ex_8, ex_9, ey_2, ey_3, ey_4, ey_5, ey_6, ey_7, ey_8, ey_9]
  exact ⟨⟨0, by simp, idx_init _ _, rfl⟩, fun k hk he => ⟨fun hlt => ⟨hlt, fun h => (idx_step dQ _ hlt he).1 (by simp [h, -List.getD_eq_getElem?_getD]), fun h => ⟨k + 1, hlt, (idx_step dQ _ hlt he).2 (by simp [h, -List.getD_eq_getElem?_getD]), by omega, wrap_succ hlt hl⟩⟩, fun hge => idx_end _ hge he⟩⟩)
theorem k_ContainsRat : SoundC Tryz.prog K_ContainsRat.1 K_ContainsRat.2 := sound_of hm (CtxOK.nil.and k_IndexRat) (fun _ => []) (by kernel_rfl) fun (l : List Rt) hl => (by
  rw [← vc_ContainsRat l]
  replace hl : Sz l := hl
  simp only [idx_any]
  simp [-List.getD_eq_getElem?_getD, -List.mem_cons, -Bool.forall_bool, -Bool.exists_bool, and_assoc, peta, tl_inj, ex_1, ex_2, ex_3, ex_4, ex_5, ex_6, ex_7, ex_8, ex_9, ey_2, ey_3, ey_4, ey_5, ey_6, ey_7, ey_8, ey_9]
  exact hl)
theorem k_rowOk : SoundC Tryz.prog K_rowOk.1 K_rowOk.2 := sound_of hm (((CtxOK.nil.and k_ContainsRat).and k_iRatOk).and k_iNameOk) (fun _ => []) (by kernel_rfl) fun (x : Rw) hl => (by
  rw [← vc_rowOk x]
  obtain ⟨h1, h2⟩ : x.1.size ≤ 1048576 ∧ x.2.1.length ≤ 1048576 := hl
  obtain ⟨nm, args, v⟩ := x
  dsimp only at *
  simp [-List.getD_eq_getElem?_getD, -List.mem_cons, -Bool.forall_bool, -Bool.exists_bool, and_assoc, peta, tl_inj, ex_1, ex_2, ex_3, ex_4, ex_5, ex_6, ex_7, ex_8, ex_9, ey_2, ey_3, ey_4, ey_5, ey_6, ey_7, ey_8, ey_9]
  simp only [rowOk]
  refine ⟨h1, fun h => ⟨fun h3 => ⟨fun h4 => ⟨by omega, ?_⟩, fun h4 => by rw [h4]; simp⟩, fun h3 => ?_⟩, fun h => by rw [h]; rfl⟩
  · rw [h, h4, decide_eq_true (by omega : args.length ≤ 2), all_any]; simp
  · rw [decide_eq_false (by omega : ¬ args.length ≤ 2)]; simp)

theorem k_isNaNS : SoundC Tryz.prog K_isNaNS.1 K_isNaNS.2 := sound_of hm CtxOK.nil (fun _ => []) (by kernel_rfl) fun (x : ByteArray) hl => (by
  rw [← vc_isNaNS x]; simp)
theorem k_isNaNI : SoundC Tryz.prog K_isNaNI.1 K_isNaNI.2 := sound_of hm CtxOK.nil (fun _ => []) (by kernel_rfl) fun (x : Int) hl => (by
  rw [← vc_isNaNI x]; simp)
theorem k_CompareS : SoundC Tryz.prog K_CompareS.1 K_CompareS.2 := sound_of hm (CtxOK.nil.and k_isNaNS) (fun _ => []) (by kernel_rfl) fun (x : ByteArray × ByteArray) hl => (by
  rw [← vc_CompareS x]
  obtain ⟨a, b⟩ := x
  refine ⟨a, ⟨rfl, trivial⟩, trivial, b, ⟨rfl, trivial⟩, trivial, ?_⟩
  dsimp only
  unfold cmpS sLess
  cases h1 : Op.bytesLess a.toList b.toList with
  | true => simp [condP]
  | false =>
    cases h2 : Op.bytesLess b.toList a.toList with
    | true =>
      have : (a.toList == b.toList) = false := by
        simp only [beq_eq_false_iff_ne]; intro e; rw [e, bl_irrefl] at h2; cases h2
      simp [condP, this]
    | false =>
      have := bl_total h1 h2
      simp [condP, this])
theorem k_CompareI : SoundC Tryz.prog K_CompareI.1 K_CompareI.2 := sound_of hm (CtxOK.nil.and k_isNaNI) (fun _ => []) (by kernel_rfl) fun (x : Int × Int) hl => (by
  rw [← vc_CompareI x]
  obtain ⟨a, b⟩ := x
  dsimp only at *
  simp [-List.getD_eq_getElem?_getD, -List.mem_cons, -Bool.forall_bool, -Bool.exists_bool, and_assoc, peta, tl_inj, ex_1, ex_2, ex_3, ex_4, ex_5, ex_6, ex_7, ex_8, ex_9, ey_2, ey_3, ey_4, ey_5, ey_6, ey_7, ey_8, ey_9]
  unfold cmpI
  refine ⟨fun h => by rw [if_pos h], fun h => ⟨fun h2 => by rw [if_neg (by omega), if_pos h2], fun h2 => by rw [if_neg (by omega), if_neg (by omega)]⟩⟩)
theorem k_Or : SoundC Tryz.prog K_Or.1 K_Or.2 := sound_of hm CtxOK.nil (fun x => A_Or x) (by kernel_rfl) fun (x : List Int) hl => (by
  rw [← vc_Or x]
  replace hl : Sz x := hl
  simp [-List.getD_eq_getElem?_getD, -List.mem_cons, -Bool.forall_bool, -Bool.exists_bool, and_assoc, peta, tl_inj, ex_1, ex_2, ex_3, ex_4, ex_5, ex_6, ex_7, ex_8, ex_9, ey_2, ey_3, ey_4, ey_5, ey_6, ey_7, ey_8, ey_9]
  refine ⟨⟨0, by simp, by simp, rfl⟩, fun k hk he => ⟨fun hlt => ?_, fun hge => ?_⟩⟩
  · rw [drop_get 0 hlt] at he
    simp only [orI] at he
    exact ⟨hlt, fun h => by rw [he, if_neg h], fun h => ⟨k + 1, hlt, by rw [he, if_pos h], by omega, wrap_succ hlt hl⟩⟩
  · rw [he, drop_end (by omega)]; rfl)
theorem k_CompareFunc : SoundC Tryz.prog K_CompareFunc.1 K_CompareFunc.2 := sound_of hm (CtxOK.nil.and k_compareRats) (fun x => A_CompareFunc x.1 x.2) (by kernel_rfl) fun (x : List Rt × List Rt) hl => (by
  rw [← vc_CompareFunc x]
  obtain ⟨h1, h2⟩ : Sz x.1 ∧ Sz x.2 := hl
  obtain ⟨a, b⟩ := x
  dsimp only at *
  simp [-List.getD_eq_getElem?_getD, -List.mem_cons, -Bool.forall_bool, -Bool.exists_bool, and_assoc, peta, tl_inj, ex_1, ex_2, ex_3, ex_4, ex_5, ex_6, ex_7, ex_8, ex_9, ey_2, ey_3, ey_4, ey_5, ey_6, ey_7, ey_8, ey_9]
  refine ⟨⟨0, by simp, by simp, by simp, rfl⟩, fun k hk hk2 he => ⟨fun hlt => ⟨hlt, fun h => ?_, fun h => ?_⟩, fun hge => ⟨fun h => ?_, fun h => ?_⟩⟩⟩
  · rw [he, drop_get dQ hlt, drop_end (l := b) (by omega)]; rfl
  · rw [drop_get dQ hlt, drop_get dQ h] at he
    simp only [cmpArgs] at he
    exact ⟨h, fun h3 => by rw [he, if_neg h3], fun h3 => ⟨k + 1, hlt, h, by rw [he, if_pos h3], by omega, wrap_succ hlt h1⟩⟩
  · rw [he, drop_end (by omega), drop_get dQ (by omega : k < b.length)]; rfl
  · rw [he, drop_end (by omega), drop_end (l := b) (by omega)]; rfl)
theorem k_compareRows : SoundC Tryz.prog K_compareRows.1 K_compareRows.2 := sound_of hm ((((CtxOK.nil.and k_Or).and k_CompareFunc).and k_CompareI).and k_CompareS) (fun _ => []) (by kernel_rfl) fun (x : Rw × Rw) hl => (by
  rw [← vc_compareRows x]
  obtain ⟨h1, h2⟩ : Sz x.1.2.1 ∧ Sz x.2.2.1 := hl
  obtain ⟨⟨nm, args, u1, u2⟩, nm', args', u1', u2'⟩ := x
  dsimp only at *
  simp [-List.getD_eq_getElem?_getD, -List.mem_cons, -Bool.forall_bool, -Bool.exists_bool, and_assoc, peta, tl_inj, ex_1, ex_2, ex_3, ex_4, ex_5, ex_6, ex_7, ex_8, ex_9, ey_2, ey_3, ey_4, ey_5, ey_6, ey_7, ey_8, ey_9]
  exact ⟨h1, h2, rfl⟩)
theorem k_suits : SoundC Tryz.prog K_suits.1 K_suits.2 := sound_of hm CtxOK.nil (fun _ => []) (by kernel_rfl) fun (x : Rt × Int) hl => (by
  rw [← vc_suits x]
  obtain ⟨⟨a, b⟩, n⟩ := x
  dsimp only at *
  simp [-List.getD_eq_getElem?_getD, -List.mem_cons, -Bool.forall_bool, -Bool.exists_bool, and_assoc, peta, tl_inj, ex_1, ex_2, ex_3, ex_4, ex_5, ex_6, ex_7, ex_8, ex_9, ey_2, ey_3, ey_4, ey_5, ey_6, ey_7, ey_8, ey_9]
  exact ⟨fun h => by simp [suit, h], fun h => by simp [suit, h, Bool.beq_eq_decide_eq]⟩)
theorem k_l7Fit : SoundC Tryz.prog K_l7Fit.1 K_l7Fit.2 := sound_of hm (CtxOK.nil.and k_sRatOk) (fun _ => []) (by kernel_rfl) fun (x : Rt × Int) hl => (by
  rw [← vc_l7Fit x]
  obtain ⟨⟨a, b⟩, n⟩ := x
  dsimp only at *
  simp [-List.getD_eq_getElem?_getD, -List.mem_cons, -Bool.forall_bool, -Bool.exists_bool, and_assoc, peta, tl_inj, ex_1, ex_2, ex_3, ex_4, ex_5, ex_6, ex_7, ex_8, ex_9, ey_2, ey_3, ey_4, ey_5, ey_6, ey_7, ey_8, ey_9]
  exact ⟨fun h => ⟨fun h2 => by simp [fit, suit, h, h2], fun h2 => by simp [fit, suit, h, h2, Bool.beq_eq_decide_eq]⟩, fun h => by simp [fit, h]⟩)

theorem m_step {m : Mdl} {k : Nat} (hk : k < m.length) (he : mL none m = mL (prevR m k) (m.drop k)) :
    (rowOk (m.getD k dR) = false → mRight m = false) ∧ (beforeR (prevR m k) (m.getD k dR) = false → mRight m = false) ∧ (rowOk (m.getD k dR) = true → beforeR (prevR m k) (m.getD k dR) = true → mL none m = mL (prevR m (k + 1)) (m.drop (k + 1))) := by
  rw [drop_get dR hk] at he
  simp only [mL] at he
  refine ⟨fun h => ?_, fun h => ?_, fun h1 h2 => ?_⟩
  · unfold mRight; rw [he, h]; simp
  · unfold mRight; rw [he, h]; simp
  · rw [he, h1, h2]
    simp [prevR, -List.getD_eq_getElem?_getD]

theorem k_l7Right : SoundC Tryz.prog K_l7Right.1 K_l7Right.2 := sound_of hm ((CtxOK.nil.and k_l7Less).and k_l7Row) (fun x => A_l7Right x) (by kernel_rfl) fun (m : Mdl) hl => (by
  rw [← vc_l7Right m]
  replace hl : SmM m := hl
  simp [-List.getD_eq_getElem?_getD, -List.mem_cons, -Bool.forall_bool, -Bool.exists_bool, and_assoc, peta, tl_inj, ex_1, ex_2, ex_3, ex_4, ex_5, ex_6, ex_7, ex_8, ex_9, ey_2, ey_3, ey_4, ey_5, ey_6, ey_7, ey_8, ey_9]
  have hlen := hl.len
  refine ⟨⟨0, by simp, by simp [prevR], rfl⟩, fun k hk he => ⟨fun hlt => ?_, fun hge => ?_⟩⟩
  · obtain ⟨m1, m2⟩ := hl.mem (getD_mem dR hlt)
    obtain ⟨e1, e2, e3⟩ := m_step hlt he
    refine ⟨hlt, m1, m2, e1, fun h1 => ⟨fun h4 => ?_, fun h4 => ⟨k + 1, hlt, e3 h1 (by rw [h4]; rfl), by omega, wrap_small (by omega) (by omega)⟩⟩⟩
    rw [wrap_small (by omega) (by omega)]
    have e : ((k : Int) - 1).toNat = k - 1 := by omega
    rw [e]
    have hb : beforeR (prevR m k) (m.getD k dR) = rowLess (m.getD (k - 1) dR) (m.getD k dR) := by
      unfold prevR; rw [if_neg (by omega)]; rfl
    exact ⟨by omega, by omega, by omega, hlt, (hl.mem (getD_mem dR (by omega))).2, fun h => e2 (by rw [hb, h]), fun h => ⟨k + 1, hlt, e3 h1 (by rw [hb, h]), by omega, wrap_small (by omega) (by omega)⟩⟩
  · rw [drop_end (by omega)] at he
    unfold mRight
    rw [he]
    simp only [mL, Bool.true_and]
    congr 1
    simp only [eq_iff_iff]; omega)

theorem k_iModel : SoundC Tryz.prog K_iModel.1 K_iModel.2 := sound_of hm ((CtxOK.nil.and k_compareRows).and k_rowOk) (fun x => A_iModel x) (by kernel_rfl) fun (m : Mdl) hl => (by
  rw [← vc_iModel m]
  replace hl : SmM m := hl
  simp [-List.getD_eq_getElem?_getD, -List.mem_cons, -Bool.forall_bool, -Bool.exists_bool, and_assoc, peta, tl_inj, ex_1, ex_2, ex_3, ex_4, ex_5, ex_6, ex_7, ex_8, ex_9, ey_2, ey_3, ey_4, ey_5, ey_6, ey_7, ey_8, ey_9]
  have hlen := hl.len
  refine ⟨fun h => by unfold mRight; rw [decide_eq_false (by omega : ¬ m.length ≤ 40)]; simp, fun h40 => ⟨⟨0, by simp, by simp [prevR], fun h => (h rfl).elim, rfl⟩, fun k hk he hp => ⟨fun hlt => ?_, fun hge => ?_⟩⟩⟩
  · obtain ⟨m1, m2⟩ := hl.mem (getD_mem dR hlt)
    obtain ⟨e1, e2, e3⟩ := m_step hlt he
    refine ⟨hlt, m1, m2, e1, fun h1 => ⟨fun h4 => ?_, fun h4 => ⟨k + 1, hlt, e3 h1 (by rw [h4]; rfl), fun _ => h1, by omega, wrap_small (by omega) (by omega)⟩⟩⟩
    rw [wrap_small (by omega) (by omega)]
    have e : ((k : Int) - 1).toNat = k - 1 := by omega
    rw [e]
    have hb : beforeR (prevR m k) (m.getD k dR) = rowLess (m.getD (k - 1) dR) (m.getD k dR) := by
      unfold prevR; rw [if_neg (by omega)]; rfl
    have hc := cmpRows_neg (hp (by omega)) h1
    have hz := (hl.mem (getD_mem dR (by omega : k - 1 < m.length))).2
    refine ⟨by omega, by omega, by omega, by omega, by omega, fun h => e2 ?_, fun h => ⟨k + 1, hlt, e3 h1 ?_, fun _ => h1, by omega, wrap_small (by omega) (by omega)⟩⟩
    · rw [hb]
      cases h2 : rowLess (m.getD (k - 1) dR) (m.getD k dR) with
      | false => rfl
      | true => have := hc.2 h2; omega
    · rw [hb]; exact hc.1 h
  · rw [drop_end (by omega)] at he
    unfold mRight
    rw [he, decide_eq_true (by omega : m.length ≤ 40)]
    rfl)

theorem fit_step {a : List Rt} {b : List Int} {k : Nat} (h1 : k < a.length) (h2 : k < b.length) : fitL (a.drop k) (b.drop k) = (fit (a.getD k dQ) (b.getD k 0) && fitL (a.drop (k + 1)) (b.drop (k + 1))) := by
  rw [drop_get dQ h1, drop_get 0 h2]; rfl
theorem fit_end {a : List Rt} {b : List Int} {k : Nat} (h1 : a.length ≤ k) : fitL (a.drop k) (b.drop k) = true := by
  rw [drop_end (by omega)]; cases b.drop k <;> rfl
theorem mL_mem : ∀ {m : Mdl} {p : Option Rw}, mL p m = true → ∀ y ∈ m, rowOk y = true
  | x :: m, p, h, y, hy => by
    simp only [mL, Bool.and_eq_true] at h
    rcases List.mem_cons.1 hy with e | e
    · subst e; exact h.1.1
    · exact mL_mem h.2 y e

theorem k_sModelOk : SoundC Tryz.prog K_sModelOk.1 K_sModelOk.2 := sound_of hm ((((CtxOK.nil.and k_l7Fit).and k_l4Find).and k_l7Right).and k_sSigOk) (fun x => A_sModelOk x.1 x.2) (by kernel_rfl) fun (x : Sig × Mdl) hl => (by
  rw [← vc_sModelOk x]
  obtain ⟨h1, h2⟩ : SmG x.1 ∧ SmM x.2 := hl
  obtain ⟨s, m⟩ := x
  dsimp only at *
  simp [-List.getD_eq_getElem?_getD, -List.mem_cons, -Bool.forall_bool, -Bool.exists_bool, and_assoc, peta, tl_inj, ex_1, ex_2, ex_3, ex_4, ex_5, ex_6, ex_7, ex_8, ex_9, ey_2, ey_3, ey_4, ey_5, ey_6, ey_7, ey_8, ey_9]
  have hlen := h2.len
  have nos : sigOk s = false → modelOk s m = false := fun h => by simp [modelOk, h]
  have nom : mRight m = false → modelOk s m = false := fun h => by simp [modelOk, h]
  refine ⟨h1, nos, fun hs => ⟨h2, nom, fun hm' => ⟨⟨0, by simp, by simp [modelOk, hs, hm'], rfl⟩, fun k hk he => ⟨fun hlt => ?_, fun hge => by rw [he, drop_end (by omega)]; rfl⟩⟩⟩⟩
  rw [drop_get dR hlt, List.all_cons] at he
  have hr := h2.mem (getD_mem dR hlt)
  generalize m.getD k dR = r at *
  have no : rowFits s r = false → modelOk s m = false := fun h => by rw [he, h]; rfl
  refine ⟨hlt, h1, fun h => no (by simp [rowFits, h]), fun hf => ⟨hlt, fun h => no ?_, fun hl2 => ⟨hlt, fun h => no (by simp [rowFits, h]), fun hv => ⟨hlt, ⟨0, by simp, by omega, ?_, rfl⟩, fun j _ hj _ hj2 => ⟨fun hjl => ?_, fun hge => ?_⟩⟩⟩⟩⟩
  · simp only [rowFits]; rw [decide_eq_false (by omega)]; simp
  · simp only [rowFits, List.drop_zero, hf, hv, Bool.true_and]; rw [decide_eq_true (by omega)]; simp
  · rw [fit_step (by omega) hjl] at hj2
    exact ⟨hlt, by omega, hjl, fun h => no (by rw [hj2, h]; rfl), fun h => ⟨hlt, j + 1, by omega, by omega, by rw [hj2, h]; rfl, by omega, wrap_small (by omega) (by omega)⟩⟩
  · rw [fit_end (by omega)] at hj2
    exact ⟨k + 1, hlt, by rw [he, hj2]; rfl, by omega, wrap_small (by omega) (by omega)⟩)
theorem k_iModelOk : SoundC Tryz.prog K_iModelOk.1 K_iModelOk.2 := sound_of hm ((((CtxOK.nil.and k_suits).and k_symbol).and k_iModel).and k_iSigOk) (fun x => A_iModelOk x.1 x.2) (by kernel_rfl) fun (x : Sig × Mdl) hl => (by
  rw [← vc_iModelOk x]
  obtain ⟨h1, h2⟩ : SmG x.1 ∧ SmM x.2 := hl
  obtain ⟨s, m⟩ := x
  dsimp only at *
  simp [-List.getD_eq_getElem?_getD, -List.mem_cons, -Bool.forall_bool, -Bool.exists_bool, and_assoc, peta, tl_inj, ex_1, ex_2, ex_3, ex_4, ex_5, ex_6, ex_7, ex_8, ex_9, ey_2, ey_3, ey_4, ey_5, ey_6, ey_7, ey_8, ey_9]
  have hlen := h2.len
  have nos : sigOk s = false → modelOk s m = false := fun h => by simp [modelOk, h]
  have nom : mRight m = false → modelOk s m = false := fun h => by simp [modelOk, h]
  have hmr : mRight m = true → mL none m = true := fun h => by unfold mRight at h; exact (Bool.and_eq_true _ _ ▸ h).1
  refine ⟨h1, nos, fun hs => ⟨h2, nom, fun hm' => ⟨⟨0, by simp, by simp [modelOk, hs, hm'], hmr hm', rfl⟩, fun k hk he hm2 => ⟨fun hlt => ?_, fun hge => by rw [he, drop_end (by omega)]; rfl⟩⟩⟩⟩
  rw [drop_get dR hlt, List.all_cons] at he
  have hr := h2.mem (getD_mem dR hlt)
  obtain ⟨_, _, q1, q2⟩ := rowOk_iff.1 (mL_mem hm2 _ (getD_mem dR hlt))
  generalize m.getD k dR = r at *
  have no : rowFits s r = false → modelOk s m = false := fun h => by rw [he, h]; rfl
  refine ⟨hlt, h1, fun h => no (by simp [rowFits, h]), fun hf => ⟨fun h => no ?_, fun hl2 => ⟨fun h => no (by simp [rowFits, fit, h]), fun hv => ⟨hlt, ⟨0, by simp, by omega, ?_, rfl⟩, fun j _ hj _ hj2 => ⟨fun hjl => ?_, fun hge => ?_⟩⟩⟩⟩⟩
  · simp only [rowFits]; rw [decide_eq_false (by omega)]; simp
  · simp only [rowFits, List.drop_zero, hf, fit, q1, hv, Bool.true_and]; rw [decide_eq_true (by omega)]; simp
  · rw [fit_step hjl (by omega)] at hj2
    have hq : ratOk (r.2.1.getD j dQ) = true := List.all_eq_true.1 q2 _ (getD_mem dQ hjl)
    simp only [fit, hq, Bool.true_and] at hj2
    exact ⟨hjl, by omega, fun h => no (by rw [hj2, h]; rfl), fun h => ⟨hlt, j + 1, by omega, by omega, by rw [hj2, h]; rfl, by omega, wrap_small (by omega) (by omega)⟩⟩
  · rw [fit_end (by omega)] at hj2
    exact ⟨k + 1, hlt, by rw [he, hj2]; rfl, hm2, by omega, wrap_small (by omega) (by omega)⟩)
end Cg
