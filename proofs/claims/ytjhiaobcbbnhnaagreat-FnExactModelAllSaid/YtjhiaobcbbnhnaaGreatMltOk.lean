/-
  The codes' contracts: the truth of literals in models. No condition.
-/
import Derived.Test.YtjhiaobcbbnhnaaGreatMltVc
import Derived.Test.YtjhiaobcbbnhnaaGreatLitOk
import Derived.Test.YtjhiaobcbbnhnaaGreatAtmOk
set_option linter.unusedVariables false
set_option linter.unusedSimpArgs false
set_option maxRecDepth 100000
set_option maxHeartbeats 1000000
namespace Pl
open Go Cg
theorem least_ok {n d : Int} {x : Rt} (h : least n d = some x) : ratOk x = true := by
  unfold least at h
  split at h
  · cases h; assumption
  · cases h
theorem ratAdd_ok {a b x : Rt} (h : ratAdd a b = some x) : ratOk x = true := by
  unfold ratAdd at h
  split at h
  · exact least_ok h
  · cases h
theorem ratOk_whole {n : Int} (h1 : -1000000000 ≤ n) (h2 : n ≤ 1000000000) : ratOk (n, 1) = true := by
  rw [ratOk_iff]; exact ⟨h1, h2, by simp only; omega, by simp only; omega, by simp⟩
theorem below_iff {v : Rt} {b : Int} {strict : Bool} (hv : ratOk v = true) (h1 : -1000 ≤ b) (h2 : b ≤ 1000) : under v b strict = (ratLess v (b, 1) || (!strict && decide (v = (b, 1)))) := by
  have hb : ratOk (b, 1) = true := ratOk_whole (by omega) (by omega)
  unfold under
  cases strict with
  | true => simp
  | false =>
    simp only [Bool.false_eq_true, if_false, Bool.not_false, Bool.true_and]
    by_cases e : v = (b, 1)
    · rw [decide_eq_true e, Bool.or_true, e]
      have : ratLess (b, 1) (b, 1) = false := by unfold ratLess; simp
      rw [this]; rfl
    · rw [decide_eq_false e, Bool.or_false]
      have hne : ¬ v.1 * 1 = b * v.2 := fun h => e (rat_eq hv hb h)
      have l1 := ratLess_iff hv hb
      have l2 := ratLess_iff hb hv
      simp only at l1 l2
      cases e1 : ratLess v (b, 1) with
      | true =>
        have := l1.1 e1
        cases e2 : ratLess (b, 1) v with
        | false => rfl
        | true => have := l2.1 e2; omega
      | false =>
        cases e2 : ratLess (b, 1) v with
        | true => rfl
        | false =>
          exfalso
          have h3 : ¬ v.1 * 1 < b * v.2 := fun h => by rw [l1.2 h] at e1; cases e1
          have h4 : ¬ b * v.2 < v.1 * 1 := fun h => by rw [l2.2 h] at e2; cases e2
          omega
theorem sumS_ok (m : Mdl) : ∀ (ts : List Tm) (ns : List Int) (s : Rt), ratOk s = true → (sumS m s ts ns).2 = true → ratOk (sumS m s ts ns).1 = true
  | [], _, s, hs, _ => by rw [sumS]; exact hs; simp
  | t :: ts, [], s, hs, _ => by rw [sumS]; exact hs; simp
  | t :: ts, n :: ns, s, hs, h => by
    rw [sumS] at h ⊢
    cases e1 : ratMul (n, 1) (valT m t) with
    | none => rw [e1] at h; cases h
    | some x =>
      rw [e1] at h
      simp only at h ⊢
      cases e2 : ratAdd s x with
      | none => rw [e2] at h; cases h
      | some y =>
        rw [e2] at h
        simp only at h ⊢
        exact sumS_ok m ts ns y (ratAdd_ok e2) h
theorem sumS_end {m : Mdl} {s : Rt} {ts : List Tm} {ns : List Int} {k : Nat} (h : ts.length ≤ k) : sumS m s (ts.drop k) (ns.drop k) = (s, true) := by
  rw [drop_end (by omega)]; rw [sumS]; simp
theorem sumS_cons {m : Mdl} {s : Rt} {t : Tm} {ts : List Tm} {n : Int} {ns : List Int} :
    (ratMul (n, 1) (valT m t) = none → sumS m s (t :: ts) (n :: ns) = (s, false)) ∧
    ((ratMul (n, 1) (valT m t)).isSome = true → (ratAdd s (ratV (ratMul (n, 1) (valT m t))) = none → sumS m s (t :: ts) (n :: ns) = ((0, 0), false)) ∧
      ((ratAdd s (ratV (ratMul (n, 1) (valT m t)))).isSome = true → sumS m s (t :: ts) (n :: ns) = sumS m (ratV (ratAdd s (ratV (ratMul (n, 1) (valT m t))))) ts ns)) := by
  rw [sumS]
  cases e1 : ratMul (n, 1) (valT m t) with
  | none => exact ⟨fun _ => rfl, fun h => (by cases h)⟩
  | some x =>
    refine ⟨fun h => (by cases h), fun _ => ?_⟩
    simp only [ratV, Option.getD_some]
    cases e2 : ratAdd s x with
    | none => exact ⟨fun _ => rfl, fun h => by cases h⟩
    | some y => exact ⟨fun h => (by cases h), fun _ => rfl⟩
theorem sumS_step {m : Mdl} {s : Rt} {ts : List Tm} {ns : List Int} {k : Nat} (h1 : k < ts.length) (h2 : k < ns.length) :
    (ratMul (ns.getD k 0, 1) (valT m (ts.getD k dT)) = none → sumS m s (ts.drop k) (ns.drop k) = (s, false)) ∧
    ((ratMul (ns.getD k 0, 1) (valT m (ts.getD k dT))).isSome = true → (ratAdd s (ratV (ratMul (ns.getD k 0, 1) (valT m (ts.getD k dT)))) = none → sumS m s (ts.drop k) (ns.drop k) = ((0, 0), false)) ∧
      ((ratAdd s (ratV (ratMul (ns.getD k 0, 1) (valT m (ts.getD k dT))))).isSome = true → sumS m s (ts.drop k) (ns.drop k) = sumS m (ratV (ratAdd s (ratV (ratMul (ns.getD k 0, 1) (valT m (ts.getD k dT)))))) (ts.drop (k + 1)) (ns.drop (k + 1)))) := by
  rw [drop_get dT h1, drop_get 0 h2]
  exact sumS_cons
theorem ratAdd_okV {a b : Rt} (h : (ratAdd a b).isSome = true) : ratOk (ratV (ratAdd a b)) = true := by
  cases e : ratAdd a b with
  | none => rw [e] at h; cases h
  | some x => exact ratAdd_ok e
theorem plus_cases (s : Rt) (n : Int) (v : Rt) : (plusV s n v = none → ratMul (n, 1) v = none ∨ ((ratMul (n, 1) v).isSome = true ∧ ratAdd s (ratV (ratMul (n, 1) v)) = none)) ∧
    ((plusV s n v).isSome = true → (ratMul (n, 1) v).isSome = true ∧ (ratAdd s (ratV (ratMul (n, 1) v))).isSome = true ∧ plusV s n v = ratAdd s (ratV (ratMul (n, 1) v))) := by
  unfold plusV
  cases ratMul (n, 1) v with
  | none => exact ⟨fun _ => .inl rfl, fun h => by cases h⟩
  | some x => exact ⟨fun h => .inr ⟨rfl, h⟩, fun h => ⟨rfl, h, rfl⟩⟩
theorem rat_beq (p q : Rt) : (p.1 == q.1 && p.2 == q.2) = decide (p = q) := by
  rw [Bool.eq_iff_iff]
  simp only [Bool.and_eq_true, beq_iff_eq, decide_eq_true_eq]
  exact ⟨fun h => Prod.ext h.1 h.2, fun h => by rw [h]; exact ⟨rfl, rfl⟩⟩
theorem ml_no {s : Sig} {m : Mdl} {x : Atm} {no : Bool} (h : modelOk s m = false ∨ atomOk s x = false) : modelLit s m (x, no) = (false, false) := by
  unfold modelLit
  rw [if_pos]
  rcases h with h | h <;> simp [h]
theorem ml_yes {s : Sig} {m : Mdl} {x : Atm} {no : Bool} (h1 : modelOk s m = true) (h2 : atomOk s x = true) : modelLit s m (x, no) = if (atomV m x).2 = true then ((atomV m x).1 != no, true) else (false, false) := by
  unfold modelLit
  rw [if_neg]
  simp [h1, h2]
theorem atomOk_sum {s : Sig} {kind : Int} {a b : TP} {nums : List Tm} {times : List Int} {bound : Int} {strict : Bool} (h : atomOk s (kind, a, b, nums, times, bound, strict) = true) (hk : ¬ kind = 1) : nums.length = times.length ∧ -1000 ≤ bound ∧ bound ≤ 1000 := by
  simp only [atomOk, Bool.and_eq_true] at h
  have hr := h.1.2
  unfold atomRight at hr
  split at hr
  · simp only [sumRight, Bool.and_eq_true] at hr
    obtain ⟨_, _, q1, _, _, q2, q3⟩ := (head_iff kind a b nums times bound strict).1 hr.1
    exact ⟨q1, q2, q3⟩
  · simp only [Bool.and_eq_true, decide_eq_true_eq] at hr
    exact absurd hr.1 hk
theorem modelOk_mL {s : Sig} {m : Mdl} (h : modelOk s m = true) : mL none m = true := by
  simp only [modelOk, mRight, Bool.and_eq_true] at h; exact h.1.2.1
theorem prod_le {p q : Int} (h1 : -1000000000 ≤ p) (h2 : p ≤ 1000000000) (h3 : 1 ≤ q) (h4 : q ≤ 1000000000) : -1000000000000000000 ≤ p * q ∧ p * q ≤ 1000000000000000000 := by
  have u1 : p * q ≤ 1000000000 * q := Int.mul_le_mul_of_nonneg_right h2 (by omega)
  have u2 : -1000000000 * q ≤ p * q := Int.mul_le_mul_of_nonneg_right h1 (by omega)
  omega
theorem prod_le2 {p q : Int} (h1 : -1000000000 ≤ p) (h2 : p ≤ 1000000000) (h3 : -1000000000 ≤ q) (h4 : q ≤ 1000000000) : -1000000000000000000 ≤ p * q ∧ p * q ≤ 1000000000000000000 := by
  have e : (p * q).natAbs ≤ 1000000000 * 1000000000 := by
    rw [Int.natAbs_mul]; exact Nat.mul_le_mul (by omega) (by omega)
  omega
theorem prod_pos {p q : Int} (h1 : 1 ≤ p) (h3 : 1 ≤ q) : 1 ≤ p * q := by
  have := Int.mul_le_mul h1 h3 (by decide) (by omega)
  omega
theorem least_div {n d : Int} (hn : n.natAbs ≤ 2000000000000000000) (h1 : 1 ≤ d) (h2 : d ≤ 1000000000000000000) :
    Nat.gcd n.natAbs d.natAbs ≠ 0 ∧ IntKind.i64.wrap (n.tdiv (Nat.gcd n.natAbs d.natAbs)) = n.tdiv (Nat.gcd n.natAbs d.natAbs) ∧ IntKind.i64.wrap (d.tdiv (Nat.gcd n.natAbs d.natAbs)) = d.tdiv (Nat.gcd n.natAbs d.natAbs) := by
  have hg : Nat.gcd n.natAbs d.natAbs ≠ 0 := fun h => by
    have := Nat.eq_zero_of_gcd_eq_zero_right h
    omega
  have e1 : (n.tdiv (Nat.gcd n.natAbs d.natAbs)).natAbs ≤ n.natAbs := by rw [Int.natAbs_tdiv]; exact Nat.div_le_self _ _
  have e2 : (d.tdiv (Nat.gcd n.natAbs d.natAbs)).natAbs ≤ d.natAbs := by rw [Int.natAbs_tdiv]; exact Nat.div_le_self _ _
  exact ⟨hg, wrap_small (by omega) (by omega), wrap_small (by omega) (by omega)⟩
end Pl
namespace Cg
open Go Go.Proofs Pl
theorem k_l1Least : SoundC Tryz.prog K_l1Least.1 K_l1Least.2 := sound_of hm ((CtxOK.nil.and k_sRatOk).and k_l1Gcd) (fun _ => []) (by kernel_rfl) fun (x : Int × Int) hl => (by
  obtain ⟨h1, h2, h3⟩ : x.1.natAbs ≤ 2000000000000000000 ∧ 1 ≤ x.2 ∧ x.2 ≤ 1000000000000000000 := hl
  rw [← vc_l1Least x]
  obtain ⟨n, d⟩ := x
  dsimp only at *
  obtain ⟨g1, g2, g3⟩ := least_div h1 h2 h3
  have fin : ∃ x_2 : Rt, ((IntKind.i64.wrap (n.tdiv (Nat.gcd n.natAbs d.natAbs)) = x_2.fst ∧ IntKind.i64.wrap (d.tdiv (Nat.gcd n.natAbs d.natAbs)) = x_2.snd ∧ True) ∧ True) ∧ True ∧
      condP (!ratOk x_2) (((0 : Int) = (ratV (least n d)).fst ∧ (0 : Int) = (ratV (least n d)).snd ∧ True) ∧ false = (least n d).isSome ∧ True)
        ((IntKind.i64.wrap (n.tdiv (Nat.gcd n.natAbs d.natAbs)) = (ratV (least n d)).fst ∧ IntKind.i64.wrap (d.tdiv (Nat.gcd n.natAbs d.natAbs)) = (ratV (least n d)).snd ∧ True) ∧ true = (least n d).isSome ∧ True) := by
    refine ⟨(n.tdiv (Nat.gcd n.natAbs d.natAbs), d.tdiv (Nat.gcd n.natAbs d.natAbs)), ⟨⟨g2, g3, trivial⟩, trivial⟩, trivial, ?_⟩
    rw [g2, g3]
    unfold least
    cases e : ratOk (n.tdiv (Nat.gcd n.natAbs d.natAbs), d.tdiv (Nat.gcd n.natAbs d.natAbs)) <;> simp [condP, ratV]
  rw [condP_iff]
  simp only [decide_eq_true_eq, decide_eq_false_iff_not]
  refine ⟨fun hn => ⟨(n.natAbs, d.natAbs), ⟨by rw [wrap_small (by omega) (by omega)]; simp only; omega, by simp only; omega, trivial⟩, ⟨by simp only; omega, by simp only; omega⟩, by simp only; omega, by simp only; omega, fin⟩, fun hn => ⟨(n.natAbs, d.natAbs), ⟨by simp only; omega, by simp only; omega, trivial⟩, ⟨by simp only; omega, by simp only; omega⟩, by simp only; omega, by simp only; omega, fin⟩⟩)
theorem k_ratOf : SoundC Tryz.prog K_ratOf.1 K_ratOf.2 := sound_of hm ((CtxOK.nil.and k_iRatOk).and k_gcd) (fun _ => []) (by kernel_rfl) fun (x : Int × Int) hl => (by
  obtain ⟨h1, h2, h3⟩ : x.1.natAbs ≤ 2000000000000000000 ∧ 1 ≤ x.2 ∧ x.2 ≤ 1000000000000000000 := hl
  rw [← vc_ratOf x]
  obtain ⟨n, d⟩ := x
  dsimp only at *
  obtain ⟨g1, g2, g3⟩ := least_div h1 h2 h3
  rw [condP_iff]
  refine ⟨fun h => ?_, fun _ => ?_⟩
  · simp only [beq_iff_eq] at h; omega
  rw [condP_iff]
  refine ⟨fun h => ?_, fun _ => ?_⟩
  · simp only [decide_eq_true_eq] at h; omega
  refine ⟨(n, d), ⟨rfl, rfl, trivial⟩, ⟨by simp only; omega, by simp only; omega⟩, by simp only; omega, by simp only; omega, (n.tdiv (Nat.gcd n.natAbs d.natAbs), d.tdiv (Nat.gcd n.natAbs d.natAbs)), ⟨⟨g2, g3, trivial⟩, trivial⟩, trivial, ?_⟩
  simp only
  rw [g2, g3]
  unfold least
  cases e : ratOk (n.tdiv (Nat.gcd n.natAbs d.natAbs), d.tdiv (Nat.gcd n.natAbs d.natAbs)) <;> simp [condP, ratV])
theorem k_sRatAdd : SoundC Tryz.prog K_sRatAdd.1 K_sRatAdd.2 := sound_of hm ((CtxOK.nil.and k_l1Least).and k_sRatOk) (fun _ => []) (by kernel_rfl) fun (x : Rt × Rt) hl => (by
  rw [← vc_sRatAdd x]
  obtain ⟨⟨a, b⟩, c, d⟩ := x
  dsimp only at *
  simp [-List.getD_eq_getElem?_getD, -List.mem_cons, -Bool.forall_bool, -Bool.exists_bool, and_assoc, peta, tl_inj, ex_1, ex_2, ex_3, ex_4, ex_5, ex_6, ex_7, ex_8, ex_9, ey_2, ey_3, ey_4, ey_5, ey_6, ey_7, ey_8, ey_9]
  obtain ⟨e1, e2⟩ : (∀ h : ratOk (a, b) = false, ratAdd (a, b) (c, d) = none) ∧ (∀ h : ratOk (c, d) = false, ratAdd (a, b) (c, d) = none) := ⟨fun h => by unfold ratAdd; rw [h]; rfl, fun h => by unfold ratAdd; rw [h]; simp⟩
  refine ⟨fun h => by rw [e1 h]; exact ⟨rfl, rfl, rfl⟩, fun h => ⟨fun h2 => by rw [e2 h2]; exact ⟨rfl, rfl, rfl⟩, fun h2 => ?_⟩⟩
  obtain ⟨a1, a2, a3, a4, _⟩ := ratOk_iff.1 h
  obtain ⟨c1, c2, c3, c4, _⟩ := ratOk_iff.1 h2
  dsimp only at a1 a2 a3 a4 c1 c2 c3 c4
  have p1 := prod_le a1 a2 c3 c4
  have p2 := prod_le c1 c2 a3 a4
  have p3 := prod_le (by omega : -1000000000 ≤ b) a4 c3 c4
  have p4 := prod_pos a3 c3
  have e : ratAdd (a, b) (c, d) = least (a * d + c * b) (b * d) := by unfold ratAdd; rw [h, h2]; rfl
  rw [wrap_small (x := a * d) (by omega) (by omega), wrap_small (x := c * b) (by omega) (by omega), wrap_small (x := b * d) (by omega) (by omega), wrap_small (x := a * d + c * b) (by omega) (by omega), e]
  exact ⟨by omega, by omega, by omega, rfl, rfl, rfl⟩)
theorem k_iRatAdd : SoundC Tryz.prog K_iRatAdd.1 K_iRatAdd.2 := sound_of hm ((CtxOK.nil.and k_ratOf).and k_iRatOk) (fun _ => []) (by kernel_rfl) fun (x : Rt × Rt) hl => (by
  rw [← vc_iRatAdd x]
  obtain ⟨⟨a, b⟩, c, d⟩ := x
  dsimp only at *
  simp [-List.getD_eq_getElem?_getD, -List.mem_cons, -Bool.forall_bool, -Bool.exists_bool, and_assoc, peta, tl_inj, ex_1, ex_2, ex_3, ex_4, ex_5, ex_6, ex_7, ex_8, ex_9, ey_2, ey_3, ey_4, ey_5, ey_6, ey_7, ey_8, ey_9]
  obtain ⟨e1, e2⟩ : (∀ h : ratOk (a, b) = false, ratAdd (a, b) (c, d) = none) ∧ (∀ h : ratOk (c, d) = false, ratAdd (a, b) (c, d) = none) := ⟨fun h => by unfold ratAdd; rw [h]; rfl, fun h => by unfold ratAdd; rw [h]; simp⟩
  refine ⟨fun h => by rw [e1 h]; exact ⟨rfl, rfl, rfl⟩, fun h => ⟨fun h2 => by rw [e2 h2]; exact ⟨rfl, rfl, rfl⟩, fun h2 => ?_⟩⟩
  obtain ⟨a1, a2, a3, a4, _⟩ := ratOk_iff.1 h
  obtain ⟨c1, c2, c3, c4, _⟩ := ratOk_iff.1 h2
  dsimp only at a1 a2 a3 a4 c1 c2 c3 c4
  have p1 := prod_le a1 a2 c3 c4
  have p2 := prod_le c1 c2 a3 a4
  have p3 := prod_le (by omega : -1000000000 ≤ b) a4 c3 c4
  have p4 := prod_pos a3 c3
  have e : ratAdd (a, b) (c, d) = least (a * d + c * b) (b * d) := by unfold ratAdd; rw [h, h2]; rfl
  rw [wrap_small (x := a * d) (by omega) (by omega), wrap_small (x := c * b) (by omega) (by omega), wrap_small (x := b * d) (by omega) (by omega), wrap_small (x := a * d + c * b) (by omega) (by omega), e]
  exact ⟨by omega, by omega, by omega, rfl, rfl, rfl⟩)
theorem k_sRatMul : SoundC Tryz.prog K_sRatMul.1 K_sRatMul.2 := sound_of hm ((CtxOK.nil.and k_l1Least).and k_sRatOk) (fun _ => []) (by kernel_rfl) fun (x : Rt × Rt) hl => (by
  rw [← vc_sRatMul x]
  obtain ⟨⟨a, b⟩, c, d⟩ := x
  dsimp only at *
  simp [-List.getD_eq_getElem?_getD, -List.mem_cons, -Bool.forall_bool, -Bool.exists_bool, and_assoc, peta, tl_inj, ex_1, ex_2, ex_3, ex_4, ex_5, ex_6, ex_7, ex_8, ex_9, ey_2, ey_3, ey_4, ey_5, ey_6, ey_7, ey_8, ey_9]
  obtain ⟨e1, e2⟩ : (∀ h : ratOk (a, b) = false, ratMul (a, b) (c, d) = none) ∧ (∀ h : ratOk (c, d) = false, ratMul (a, b) (c, d) = none) := ⟨fun h => by unfold ratMul; rw [h]; rfl, fun h => by unfold ratMul; rw [h]; simp⟩
  refine ⟨fun h => by rw [e1 h]; exact ⟨rfl, rfl, rfl⟩, fun h => ⟨fun h2 => by rw [e2 h2]; exact ⟨rfl, rfl, rfl⟩, fun h2 => ?_⟩⟩
  obtain ⟨a1, a2, a3, a4, _⟩ := ratOk_iff.1 h
  obtain ⟨c1, c2, c3, c4, _⟩ := ratOk_iff.1 h2
  dsimp only at a1 a2 a3 a4 c1 c2 c3 c4
  have p1 := prod_le2 a1 a2 c1 c2
  have p3 := prod_le (by omega : -1000000000 ≤ b) a4 c3 c4
  have p4 := prod_pos a3 c3
  have e : ratMul (a, b) (c, d) = least (a * c) (b * d) := by unfold ratMul; rw [h, h2]; rfl
  rw [wrap_small (x := a * c) (by omega) (by omega), wrap_small (x := b * d) (by omega) (by omega), e]
  exact ⟨by omega, by omega, by omega, rfl, rfl, rfl⟩)
theorem k_iRatMul : SoundC Tryz.prog K_iRatMul.1 K_iRatMul.2 := sound_of hm ((CtxOK.nil.and k_ratOf).and k_iRatOk) (fun _ => []) (by kernel_rfl) fun (x : Rt × Rt) hl => (by
  rw [← vc_iRatMul x]
  obtain ⟨⟨a, b⟩, c, d⟩ := x
  dsimp only at *
  simp [-List.getD_eq_getElem?_getD, -List.mem_cons, -Bool.forall_bool, -Bool.exists_bool, and_assoc, peta, tl_inj, ex_1, ex_2, ex_3, ex_4, ex_5, ex_6, ex_7, ex_8, ex_9, ey_2, ey_3, ey_4, ey_5, ey_6, ey_7, ey_8, ey_9]
  obtain ⟨e1, e2⟩ : (∀ h : ratOk (a, b) = false, ratMul (a, b) (c, d) = none) ∧ (∀ h : ratOk (c, d) = false, ratMul (a, b) (c, d) = none) := ⟨fun h => by unfold ratMul; rw [h]; rfl, fun h => by unfold ratMul; rw [h]; simp⟩
  refine ⟨fun h => by rw [e1 h]; exact ⟨rfl, rfl, rfl⟩, fun h => ⟨fun h2 => by rw [e2 h2]; exact ⟨rfl, rfl, rfl⟩, fun h2 => ?_⟩⟩
  obtain ⟨a1, a2, a3, a4, _⟩ := ratOk_iff.1 h
  obtain ⟨c1, c2, c3, c4, _⟩ := ratOk_iff.1 h2
  dsimp only at a1 a2 a3 a4 c1 c2 c3 c4
  have p1 := prod_le2 a1 a2 c1 c2
  have p3 := prod_le (by omega : -1000000000 ≤ b) a4 c3 c4
  have p4 := prod_pos a3 c3
  have e : ratMul (a, b) (c, d) = least (a * c) (b * d) := by unfold ratMul; rw [h, h2]; rfl
  rw [wrap_small (x := a * c) (by omega) (by omega), wrap_small (x := b * d) (by omega) (by omega), e]
  exact ⟨by omega, by omega, by omega, rfl, rfl, rfl⟩)
theorem k_plus : SoundC Tryz.prog K_plus.1 K_plus.2 := sound_of hm (((CtxOK.nil.and k_iRatAdd).and k_iRatMul).and k_whole) (fun _ => []) (by kernel_rfl) fun (x : Rt × Int × Rt) hl => (by
  rw [← vc_plus x]
  obtain ⟨⟨a, b⟩, n, c, d⟩ := x
  dsimp only at *
  simp [-List.getD_eq_getElem?_getD, -List.mem_cons, -Bool.forall_bool, -Bool.exists_bool, and_assoc, peta, tl_inj, ex_1, ex_2, ex_3, ex_4, ex_5, ex_6, ex_7, ex_8, ex_9, ey_2, ey_3, ey_4, ey_5, ey_6, ey_7, ey_8, ey_9]
  unfold plusV
  cases ratMul (n, 1) (c, d) with
  | none => exact ⟨fun _ => ⟨rfl, rfl, rfl⟩, fun h => by cases h⟩
  | some x => exact ⟨fun h => (by cases h), fun _ => ⟨rfl, rfl, rfl⟩⟩)
theorem k_below : SoundC Tryz.prog K_below.1 K_below.2 := sound_of hm ((CtxOK.nil.and k_iRatLess).and k_whole) (fun _ => []) (by kernel_rfl) fun (x : Rt × Int × Bool) hl => (by
  rw [← vc_below x]
  obtain ⟨⟨a, b⟩, n, c⟩ := x
  dsimp only at *
  simp [-List.getD_eq_getElem?_getD, -List.mem_cons, -Bool.forall_bool, -Bool.exists_bool, and_assoc, peta, tl_inj, ex_1, ex_2, ex_3, ex_4, ex_5, ex_6, ex_7, ex_8, ex_9, ey_2, ey_3, ey_4, ey_5, ey_6, ey_7, ey_8, ey_9]
  unfold under
  exact ⟨fun h => by rw [if_pos h], fun h => by rw [h]; simp⟩)
theorem k_l7Sum : SoundC Tryz.prog K_l7Sum.1 K_l7Sum.2 := sound_of hm (((CtxOK.nil.and k_sRatAdd).and k_sRatMul).and k_lTm) (fun x => A_l7Sum x.1 x.2) (by kernel_rfl) fun (x : Mdl × Atm) hl => (by
  obtain ⟨h1, h2, h3⟩ : SmM x.1 ∧ SmA x.2 ∧ x.2.2.2.2.1.length = x.2.2.2.2.2.1.length := hl
  rw [← vc_l7Sum x]
  obtain ⟨m, kind, ⟨a, b⟩, ⟨c, d⟩, nums, times, bound, strict⟩ := x
  dsimp only at *
  simp [-List.getD_eq_getElem?_getD, -List.mem_cons, -Bool.forall_bool, -Bool.exists_bool, and_assoc, peta, tl_inj, ex_1, ex_2, ex_3, ex_4, ex_5, ex_6, ex_7, ex_8, ex_9, ey_2, ey_3, ey_4, ey_5, ey_6, ey_7, ey_8, ey_9]
  obtain ⟨q1, q2, q3, q4⟩ : SmT (.mk a b) ∧ SmT (.mk c d) ∧ SmTs nums ∧ times.length ≤ 1048576 := SmA.parts h2
  have q5 := q3.len
  refine ⟨⟨0, by simp, ratOk_one, by simp, rfl⟩, fun k u v hk hok he => ⟨fun hlt => ?_, fun hge => by rw [he, sumS_end hge]; exact ⟨rfl, rfl, rfl⟩⟩⟩
  obtain ⟨e1, e2⟩ := sumS_step (m := m) (s := (u, v)) hlt (by omega : k < times.length)
  refine ⟨by omega, hlt, h1, q3.mem (getD_mem dT hlt), fun h => by rw [he, e1 h]; exact ⟨rfl, rfl, rfl⟩, fun h => ⟨fun g => ?_, fun g => ⟨k + 1, hlt, ratAdd_okV g, by rw [he, (e2 h).2 g], by omega, wrap_small (by omega) (by omega)⟩⟩⟩
  rw [he, (e2 h).1 g, g]; exact ⟨rfl, rfl, rfl⟩)
theorem k_atomV : SoundC Tryz.prog K_atomV.1 K_atomV.2 := sound_of hm ((((CtxOK.nil.and k_below).and k_plus).and k_whole).and k_val) (fun x => A_atomV x.1 x.2) (by kernel_rfl) fun (x : Mdl × Atm) hl => (by
  obtain ⟨h0, h1, h2, h3⟩ : mL none x.1 = true ∧ SmM x.1 ∧ SmA x.2 ∧ (¬ x.2.1 = 1 → x.2.2.2.2.1.length = x.2.2.2.2.2.1.length) := hl
  rw [← vc_atomV x]
  obtain ⟨m, kind, ⟨a, b⟩, ⟨c, d⟩, nums, times, bound, strict⟩ := x
  dsimp only at *
  simp [-List.getD_eq_getElem?_getD, -List.mem_cons, -Bool.forall_bool, -Bool.exists_bool, and_assoc, peta, tl_inj, ex_1, ex_2, ex_3, ex_4, ex_5, ex_6, ex_7, ex_8, ex_9, ey_2, ey_3, ey_4, ey_5, ey_6, ey_7, ey_8, ey_9]
  obtain ⟨q1, q2, q3, q4⟩ : SmT (.mk a b) ∧ SmT (.mk c d) ∧ SmTs nums ∧ times.length ≤ 1048576 := SmA.parts h2
  have q5 := q3.len
  have e1 : kind = 1 → atomV m (kind, (a, b), (c, d), nums, times, bound, strict) = (decide (valT m (.mk a b) = valT m (.mk c d)), true) := fun h => by unfold atomV; rw [if_pos h]
  have e2 : ¬ kind = 1 → atomV m (kind, (a, b), (c, d), nums, times, bound, strict) = if (sumS m (0, 1) nums times).2 = true then (under (sumS m (0, 1) nums times).1 bound strict, true) else (false, false) := fun h => by unfold atomV; rw [if_neg h]
  refine ⟨fun h => ⟨h0, h1, q1, h0, h1, q2, by rw [e1 h]; exact rat_beq _ _, by rw [e1 h]⟩, fun h => ⟨h, ⟨0, by simp, ratOk_one, by simp, rfl⟩, fun k u v _ hk hok he => ⟨fun hlt => ?_, fun hge => by rw [e2 h, he, sumS_end hge]; exact ⟨rfl, rfl⟩⟩⟩⟩
  have hl3 := h3 h
  obtain ⟨s1, s2⟩ := sumS_step (m := m) (s := (u, v)) hlt (by omega : k < times.length)
  obtain ⟨p1, p2⟩ := plus_cases (u, v) (times.getD k 0) (valT m (nums.getD k dT))
  refine ⟨hlt, by omega, h0, h1, q3.mem (getD_mem dT hlt), fun g => ?_, fun g => ?_⟩
  · rcases p1 g with g1 | ⟨g1, g2⟩
    · rw [e2 h, he, s1 g1]; exact ⟨rfl, rfl⟩
    · rw [e2 h, he, (s2 g1).1 g2]; exact ⟨rfl, rfl⟩
  · obtain ⟨g1, g2, g3⟩ := p2 g
    rw [g3]
    exact ⟨h, k + 1, hlt, ratAdd_okV g2, by rw [he, (s2 g1).2 g2], by omega, wrap_small (by omega) (by omega)⟩)
theorem k_sModelLit : SoundC Tryz.prog K_sModelLit.1 K_sModelLit.2 := sound_of hm (((((CtxOK.nil.and k_sRatLess).and k_l7Sum).and k_lTm).and k_sAtomOk).and k_sModelOk) (fun _ => []) (by kernel_rfl) fun (x : Sig × Mdl × Ltr) hl => (by
  obtain ⟨h1, h2, h3⟩ : SmG x.1 ∧ SmM x.2.1 ∧ SmA x.2.2.1 := hl
  rw [← vc_sModelLit x]
  obtain ⟨s, m, ⟨kind, ⟨a, b⟩, ⟨c, d⟩, nums, times, bound, strict⟩, no⟩ := x
  dsimp only at *
  simp [-List.getD_eq_getElem?_getD, -List.mem_cons, -Bool.forall_bool, -Bool.exists_bool, and_assoc, peta, tl_inj, ex_1, ex_2, ex_3, ex_4, ex_5, ex_6, ex_7, ex_8, ex_9, ey_2, ey_3, ey_4, ey_5, ey_6, ey_7, ey_8, ey_9]
  obtain ⟨q1, q2, q3, q4⟩ : SmT (.mk a b) ∧ SmT (.mk c d) ∧ SmTs nums ∧ times.length ≤ 1048576 := SmA.parts h3
  have e1 : kind = 1 → atomV m (kind, (a, b), (c, d), nums, times, bound, strict) = (decide (valT m (.mk a b) = valT m (.mk c d)), true) := fun h => by unfold atomV; rw [if_pos h]
  have e2 : ¬ kind = 1 → atomV m (kind, (a, b), (c, d), nums, times, bound, strict) = if (sumS m (0, 1) nums times).2 = true then (under (sumS m (0, 1) nums times).1 bound strict, true) else (false, false) := fun h => by unfold atomV; rw [if_neg h]
  have hb : ∀ x y : Bool, (x == y) = !(x != y) := by decide
  refine ⟨h1, h2, fun g => by rw [ml_no (.inl g)]; exact ⟨rfl, rfl⟩, fun g => ⟨h1, h3, fun g2 => by rw [ml_no (.inr g2)]; exact ⟨rfl, rfl⟩, fun g2 => ⟨fun hk => ⟨h2, q1, h2, q2, ?_⟩, fun hk => ?_⟩⟩⟩
  · rw [ml_yes g g2, e1 hk, rat_beq]
    exact ⟨hb _ _, rfl⟩
  · obtain ⟨w1, w2, w3⟩ := atomOk_sum g2 hk
    refine ⟨h2, h3, w1, fun hs => ?_, fun hs => ?_⟩
    · rw [ml_yes g g2, e2 hk, hs]; exact ⟨rfl, rfl⟩
    · rw [ml_yes g g2, e2 hk, if_pos hs]
      have hok := sumS_ok m nums times (0, 1) ratOk_one hs
      have hu := below_iff (strict := strict) hok w2 w3
      simp only [if_true]
      rw [hu]
      refine ⟨fun hl => ?_, fun hl => ⟨fun hst => ?_, fun hst => ?_⟩⟩
      · rw [hl, Bool.true_or]; exact ⟨by cases no <;> rfl, trivial⟩
      · have hr := rat_beq (sumS m (0, 1) nums times).1 (bound, 1)
        simp only at hr
        rw [hl, hst, hr, Bool.false_or, Bool.not_false, Bool.true_and]; exact ⟨hb _ _, trivial⟩
      · rw [hl, hst]; exact ⟨by cases no <;> rfl, trivial⟩)
theorem k_iModelLit : SoundC Tryz.prog K_iModelLit.1 K_iModelLit.2 := sound_of hm (((CtxOK.nil.and k_atomV).and k_iAtomOk).and k_iModelOk) (fun _ => []) (by kernel_rfl) fun (x : Sig × Mdl × Ltr) hl => (by
  obtain ⟨h1, h2, h3⟩ : SmG x.1 ∧ SmM x.2.1 ∧ SmA x.2.2.1 := hl
  rw [← vc_iModelLit x]
  obtain ⟨s, m, ⟨kind, ⟨a, b⟩, ⟨c, d⟩, nums, times, bound, strict⟩, no⟩ := x
  dsimp only at *
  simp [-List.getD_eq_getElem?_getD, -List.mem_cons, -Bool.forall_bool, -Bool.exists_bool, and_assoc, peta, tl_inj, ex_1, ex_2, ex_3, ex_4, ex_5, ex_6, ex_7, ex_8, ex_9, ey_2, ey_3, ey_4, ey_5, ey_6, ey_7, ey_8, ey_9]
  have hb : ∀ x y : Bool, (x == y) = !(x != y) := by decide
  refine ⟨h1, h2, fun g => by rw [ml_no (.inl g)]; exact ⟨rfl, rfl⟩, fun g => ⟨h1, h3, fun g2 => by rw [ml_no (.inr g2)]; exact ⟨rfl, rfl⟩, fun g2 => ⟨modelOk_mL g, h2, h3, fun hk => (atomOk_sum g2 hk).1, fun hs => ?_, fun hs => ?_⟩⟩⟩
  · rw [ml_yes g g2, hs]; exact ⟨rfl, rfl⟩
  · rw [ml_yes g g2, if_pos hs]; exact ⟨hb _ _, rfl⟩)
theorem k_sModelAll : SoundC Tryz.prog K_sModelAll.1 K_sModelAll.2 := sound_of hm ((CtxOK.nil.and k_sModelOk).and k_sModelLit) (fun x => A_sModelAll x.1 x.2.1 x.2.2) (by kernel_rfl) fun (x : Sig × Mdl × List Ltr) hl => (by
  obtain ⟨h1, h2, h3⟩ : SmG x.1 ∧ SmM x.2.1 ∧ SmLs x.2.2 := hl
  rw [← vc_sModelAll x]
  obtain ⟨s, m, l⟩ := x
  dsimp only at *
  simp [-List.getD_eq_getElem?_getD, -List.mem_cons, -Bool.forall_bool, -Bool.exists_bool, and_assoc, peta, tl_inj, ex_1, ex_2, ex_3, ex_4, ex_5, ex_6, ex_7, ex_8, ex_9, ey_2, ey_3, ey_4, ey_5, ey_6, ey_7, ey_8, ey_9]
  have hlen := h3.len
  refine ⟨⟨0, by simp, by simp, rfl⟩, fun k hk he => ⟨fun hlt => ?_, fun hge => ⟨h1, h2, ?_⟩⟩⟩
  · rw [drop_get dL hlt, List.all_cons] at he
    have no : litIs s m (l.getD k dL) = false → modelAll s m l = false := fun h => by unfold modelAll; rw [he, h]; simp
    refine ⟨hlt, h1, h2, h3.mem (getD_mem dL hlt), fun h => no (by unfold litIs; rw [h]; simp), fun h => ⟨fun g => no (by unfold litIs; rw [g]; rfl), fun g => ⟨k + 1, hlt, ?_, by omega, wrap_small (by omega) (by omega)⟩⟩⟩
    have : litIs s m (l.getD k dL) = true := by unfold litIs; rw [g, h]; rfl
    rw [he, this]; rfl
  · rw [drop_end (by omega)] at he
    unfold modelAll; rw [he]; simp)
theorem k_iModelAll : SoundC Tryz.prog K_iModelAll.1 K_iModelAll.2 := sound_of hm ((CtxOK.nil.and k_iModelOk).and k_iModelLit) (fun x => A_iModelAll x.1 x.2.1 x.2.2) (by kernel_rfl) fun (x : Sig × Mdl × List Ltr) hl => (by
  obtain ⟨h1, h2, h3⟩ : SmG x.1 ∧ SmM x.2.1 ∧ SmLs x.2.2 := hl
  rw [← vc_iModelAll x]
  obtain ⟨s, m, l⟩ := x
  dsimp only at *
  simp [-List.getD_eq_getElem?_getD, -List.mem_cons, -Bool.forall_bool, -Bool.exists_bool, and_assoc, peta, tl_inj, ex_1, ex_2, ex_3, ex_4, ex_5, ex_6, ex_7, ex_8, ex_9, ey_2, ey_3, ey_4, ey_5, ey_6, ey_7, ey_8, ey_9]
  have hlen := h3.len
  refine ⟨h1, h2, fun h => by unfold modelAll; rw [h]; rfl, fun hm' => ⟨hm', ⟨0, by simp, by simp, rfl⟩, fun k _ hk he => ⟨fun hlt => ?_, fun hge => ?_⟩⟩⟩
  · rw [drop_get dL hlt, List.all_cons] at he
    have no : litIs s m (l.getD k dL) = false → modelAll s m l = false := fun h => by unfold modelAll; rw [he, h]; simp
    refine ⟨hlt, h1, h2, h3.mem (getD_mem dL hlt), fun h => no (by unfold litIs; rw [h]; simp), fun h => ⟨fun g => no (by unfold litIs; rw [g]; rfl), fun g => ⟨hm', k + 1, hlt, ?_, by omega, wrap_small (by omega) (by omega)⟩⟩⟩
    have : litIs s m (l.getD k dL) = true := by unfold litIs; rw [g, h]; rfl
    rw [he, this]; rfl
  · rw [drop_end (by omega)] at he
    unfold modelAll; rw [he, hm']; rfl)
theorem k_xModelLit : SoundC Tryz.prog K_xModelLit.1 K_xModelLit.2 := sound_of hm (((((((((((CtxOK.nil.and k_eqLit).and k_eqModel).and k_eqSig).and k_iModelLit).and k_sModelLit).and k_toLit).and k_toModel).and k_toSig).and k_szLit).and k_szModel).and k_szSig) (fun _ => []) (by kernel_rfl) fun (x : Sig × Mdl × Ltr) hl => (by
  obtain ⟨h1, h2, h3⟩ : MlG x.1 ∧ MlM x.2.1 ∧ MlA x.2.2.1 := hl
  rw [← vc_xModelLit x]
  obtain ⟨s, m, ⟨kind, ⟨a, b⟩, ⟨c, d⟩, nums, times, bound, strict⟩, no⟩ := x
  dsimp only at *
  simp [-List.getD_eq_getElem?_getD, -List.mem_cons, -Bool.forall_bool, -Bool.exists_bool, and_assoc, peta, tl_inj, ex_1, ex_2, ex_3, ex_4, ex_5, ex_6, ex_7, ex_8, ex_9, ey_2, ey_3, ey_4, ey_5, ey_6, ey_7, ey_8, ey_9]
  obtain ⟨u1, u2, u3, u4⟩ := h3
  refine ⟨h1.1, fun a b c h => h1.2 _ h, fun h4 => ?_⟩
  obtain ⟨p1, p2⟩ := lim_nonneg h4
  refine ⟨h2.1, fun a b c d h => h2.2 _ h, h4, by omega, fun h5 => ?_⟩
  obtain ⟨p3, p4⟩ := lim_nonneg h5
  refine ⟨u1, u2, u3.1, u3.2, u4, h5, by omega, fun h6 => ?_⟩
  have p5 := (lim_nonneg h6).1
  have p6 : costL ((kind, (a, b), (c, d), nums, times, bound, strict), no) = costA (kind, (a, b), (c, d), nums, times, bound, strict) := rfl
  and_intros <;> omega)
theorem k_xModelAll : SoundC Tryz.prog K_xModelAll.1 K_xModelAll.2 := sound_of hm (((((((((((CtxOK.nil.and k_eqLitS).and k_eqModel).and k_eqSig).and k_iModelAll).and k_sModelAll).and k_toLitS).and k_toModel).and k_toSig).and k_szLitS).and k_szModel).and k_szSig) (fun _ => []) (by kernel_rfl) fun (x : Sig × Mdl × List Ltr) hl => (by
  obtain ⟨h1, h2, h3⟩ : MlG x.1 ∧ MlM x.2.1 ∧ MlLs x.2.2 := hl
  rw [← vc_xModelAll x]
  obtain ⟨s, m, l⟩ := x
  dsimp only at *
  simp [-List.getD_eq_getElem?_getD, -List.mem_cons, -Bool.forall_bool, -Bool.exists_bool, and_assoc, peta, tl_inj, ex_1, ex_2, ex_3, ex_4, ex_5, ex_6, ex_7, ex_8, ex_9, ey_2, ey_3, ey_4, ey_5, ey_6, ey_7, ey_8, ey_9]
  refine ⟨h1.1, fun a b c h => h1.2 _ h, fun h4 => ?_⟩
  obtain ⟨p1, p2⟩ := lim_nonneg h4
  refine ⟨h2.1, fun a b c d h => h2.2 _ h, h4, by omega, fun h5 => ?_⟩
  obtain ⟨p3, p4⟩ := lim_nonneg h5
  refine ⟨h3.1, fun a a1 b a2 b1 a3 a4 a5 b2 b3 h => h3.2 _ h, h5, by omega, fun h6 => ?_⟩
  have p5 := (lim_nonneg h6).1
  and_intros <;> omega)
end Cg
