/-
  The codes' contracts: the values of terms. No condition.
-/
import Derived.Test.YtjhiaobcbbnhnaaGreatMtmVc
import Derived.Test.YtjhiaobcbbnhnaaGreatMokOk
set_option linter.unusedVariables false
set_option linter.unusedSimpArgs false
set_option maxRecDepth 100000
set_option maxHeartbeats 1000000
namespace Pl
open Go Cg
theorem take_getD {α : Type} (d : α) {l : List α} {i : Nat} (h : i < l.length) : l.take (i + 1) = l.take i ++ [l.getD i d] := by
  rw [List.take_succ_eq_append_getElem h]; simp [h]
theorem bl_trans : ∀ {x y z : List UInt8}, Op.bytesLess x y = true → Op.bytesLess y z = true → Op.bytesLess x z = true
  | [], [], _, h, _ => by cases h
  | [], _ :: _, [], _, h => by cases h
  | [], _ :: _, _ :: _, _, _ => rfl
  | _ :: _, [], _, h, _ => by cases h
  | _ :: _, _ :: _, [], _, h => by cases h
  | a :: x, b :: y, c :: z, h, k => by
    simp only [Op.bytesLess, Bool.or_eq_true, decide_eq_true_eq, Bool.and_eq_true, beq_iff_eq, UInt8.lt_iff_toNat_lt] at h k ⊢
    rcases h with h | ⟨h, h1⟩ <;> rcases k with k | ⟨k, k1⟩
    · exact .inl (by omega)
    · subst k; exact .inl h
    · subst h; exact .inl k
    · subst h; subst k; exact .inr ⟨rfl, bl_trans h1 k1⟩
theorem valL_map (m : Mdl) : ∀ l : List Tm, valL m l = l.map (valT m)
  | [] => rfl
  | t :: ts => by simp only [valL, List.map_cons, valL_map m ts]
theorem valL_len (m : Mdl) (l : List Tm) : (valL m l).length = l.length := by rw [valL_map]; simp
theorem valL_step (m : Mdl) {l : List Tm} {k : Nat} (h : k < l.length) : valL m (l.take (k + 1)) = valL m (l.take k) ++ [valT m (l.getD k dT)] := by
  rw [valL_map, valL_map, take_getD dT h]; simp
theorem valT_mk (m : Mdl) (v : ByteArray) (ks : List Tm) : valT m (.mk v ks) = look m v (valL m ks) := by rw [valT]
theorem look_cons (r : Rw) (m : Mdl) (nm : ByteArray) (args : List Rt) : look (r :: m) nm args = if r.1 = nm ∧ r.2.1 = args then r.2.2 else look m nm args := by
  unfold look
  rw [List.find?_cons]
  by_cases h : r.1 = nm ∧ r.2.1 = args
  · rw [if_pos h, decide_eq_true h.1, decide_eq_true h.2]; rfl
  · rw [if_neg h]
    have : (decide (r.1 = nm) && decide (r.2.1 = args)) = false := by
      rw [← Bool.decide_and]; exact decide_eq_false h
    rw [this]
theorem ratOk_one : ratOk (0, 1) = true := by decide
theorem look_ok {m : Mdl} (h : mL none m = true) (nm : ByteArray) (args : List Rt) : ratOk (look m nm args) = true := by
  unfold look
  cases e : m.find? fun r => decide (r.1 = nm) && decide (r.2.1 = args) with
  | none => exact ratOk_one
  | some r => exact (rowOk_iff.1 (mL_mem h r (List.mem_of_find?_eq_some e))).2.2.1
theorem valT_ok {m : Mdl} (h : mL none m = true) (t : Tm) : ratOk (valT m t) = true := by
  cases t with
  | mk v ks => rw [valT_mk]; exact look_ok h _ _
theorem valL_ok {m : Mdl} (h : mL none m = true) (l : List Tm) : (valL m l).all ratOk = true := by
  rw [valL_map, List.all_map, List.all_eq_true]
  exact fun t _ => valT_ok h t

/-! ### Rows in order -/
theorem ratLess_iff {x y : Rt} (hx : ratOk x = true) (hy : ratOk y = true) : ratLess x y = true ↔ x.1 * y.2 < y.1 * x.2 := by
  unfold ratLess; rw [hx, hy]; simp
theorem ratLess_trans {x y z : Rt} (hx : ratOk x = true) (hy : ratOk y = true) (hz : ratOk z = true) (h1 : ratLess x y = true) (h2 : ratLess y z = true) : ratLess x z = true := by
  rw [ratLess_iff hx hy] at h1
  rw [ratLess_iff hy hz] at h2
  rw [ratLess_iff hx hz]
  have p1 := (ratOk_iff.1 hx).2.2.1
  have p2 := (ratOk_iff.1 hy).2.2.1
  have p3 := (ratOk_iff.1 hz).2.2.1
  have e1 : x.1 * y.2 * z.2 < y.1 * x.2 * z.2 := Int.mul_lt_mul_of_pos_right h1 (by omega)
  have e2 : y.1 * z.2 * x.2 < z.1 * y.2 * x.2 := Int.mul_lt_mul_of_pos_right h2 (by omega)
  have e3 : (x.1 * z.2) * y.2 < (z.1 * x.2) * y.2 := by
    have a1 : x.1 * z.2 * y.2 = x.1 * y.2 * z.2 := by rw [Int.mul_assoc, Int.mul_comm z.2, ← Int.mul_assoc]
    have a2 : z.1 * x.2 * y.2 = z.1 * y.2 * x.2 := by rw [Int.mul_assoc, Int.mul_comm x.2, ← Int.mul_assoc]
    have a3 : y.1 * x.2 * z.2 = y.1 * z.2 * x.2 := by rw [Int.mul_assoc, Int.mul_comm x.2, ← Int.mul_assoc]
    rw [a1, a2]; rw [a3] at e1; omega
  exact Int.lt_of_mul_lt_mul_right e3 (by omega)
theorem argsLess_trans : ∀ {a b c : List Rt}, a.length = b.length → b.length = c.length → a.all ratOk = true → b.all ratOk = true → c.all ratOk = true → argsLess a b = true → argsLess b c = true → argsLess a c = true
  | [], _, _, _, _, _, _, _, h, _ => by cases h
  | _ :: _, [], _, h, _, _, _, _, _, _ => by simp at h
  | _ :: _, _ :: _, [], _, h, _, _, _, _, _ => by simp at h
  | x :: a, y :: b, z :: c, h1, h2, ha, hb, hc, l1, l2 => by
    simp only [List.all_cons, Bool.and_eq_true] at ha hb hc
    simp only [argsLess] at l1 l2 ⊢
    by_cases e1 : x = y
    · subst e1
      rw [if_pos rfl] at l1
      by_cases e2 : x = z
      · subst e2
        rw [if_pos rfl] at l2 ⊢
        exact argsLess_trans (by simpa using h1) (by simpa using h2) ha.2 hb.2 hc.2 l1 l2
      · rw [if_neg e2] at l2 ⊢; exact l2
    · rw [if_neg e1] at l1
      by_cases e2 : y = z
      · subst e2
        rw [if_neg e1]; exact l1
      · rw [if_neg e2] at l2
        have l3 := ratLess_trans ha.1 hb.1 hc.1 l1 l2
        by_cases e3 : x = z
        · subst e3
          rw [ratLess_iff ha.1 ha.1] at l3; omega
        · rw [if_neg e3]; exact l3
theorem sLess_trans {a b c : ByteArray} (h1 : sLess a b = true) (h2 : sLess b c = true) : sLess a c = true := bl_trans h1 h2
theorem sLess_irrefl (a : ByteArray) : sLess a a = false := bl_irrefl _
theorem rowLess_trans {x y z : Rw} (hx : x.2.1.all ratOk = true) (hy : y.2.1.all ratOk = true) (hz : z.2.1.all ratOk = true) (h1 : rowLess x y = true) (h2 : rowLess y z = true) : rowLess x z = true := by
  unfold rowLess at h1 h2 ⊢
  by_cases e1 : x.1 = y.1
  · rw [if_pos e1] at h1
    rw [e1]
    by_cases e2 : y.1 = z.1
    · rw [if_pos e2] at h2 ⊢
      by_cases l1 : x.2.1.length = y.2.1.length
      · rw [if_pos l1] at h1
        rw [l1]
        by_cases l2 : y.2.1.length = z.2.1.length
        · rw [if_pos l2] at h2 ⊢; exact argsLess_trans l1 l2 hx hy hz h1 h2
        · rw [if_neg l2] at h2 ⊢; exact h2
      · rw [if_neg l1] at h1
        simp only [decide_eq_true_eq] at h1
        by_cases l2 : y.2.1.length = z.2.1.length
        · rw [← l2, if_neg l1]; simpa using h1
        · rw [if_neg l2] at h2
          simp only [decide_eq_true_eq] at h2
          rw [if_neg (by omega)]; simp only [decide_eq_true_eq]; omega
    · rw [if_neg e2] at h2 ⊢; exact h2
  · rw [if_neg e1] at h1
    by_cases e2 : y.1 = z.1
    · rw [← e2, if_neg e1]; exact h1
    · rw [if_neg e2] at h2
      have h3 := sLess_trans h1 h2
      rw [if_neg]
      · exact h3
      · intro e; rw [e, sLess_irrefl] at h3; cases h3
theorem argsLess_irrefl : ∀ l : List Rt, argsLess l l = false
  | [] => rfl
  | a :: l => by simp only [argsLess, if_true]; exact argsLess_irrefl l
theorem rowLess_irrefl {x : Rw} (hx : x.2.1.all ratOk = true) : rowLess x x = false := by
  unfold rowLess
  rw [if_pos rfl, if_pos rfl]
  exact argsLess_irrefl _
theorem cmpArgs_zero : ∀ {a b : List Rt}, a.all ratOk = true → b.all ratOk = true → (cmpArgs a b = 0 ↔ a = b)
  | [], [], _, _ => by simp [cmpArgs]
  | [], _ :: _, _, _ => by simp [cmpArgs]
  | _ :: _, [], _, _ => by simp [cmpArgs]
  | x :: a, y :: b, ha, hb => by
    simp only [List.all_cons, Bool.and_eq_true] at ha hb
    have h1 := cmpRat_zero ha.1 hb.1
    simp only [cmpArgs]
    by_cases e : x = y
    · subst e
      rw [if_pos (h1.2 rfl), cmpArgs_zero ha.2 hb.2]; simp
    · rw [if_neg (fun h => e (h1.1 h))]
      exact ⟨fun h => absurd (h1.1 h) e, fun h => by simp at h; exact absurd h.1 e⟩
theorem cmpRows_zero {x y : Rw} (hx : x.2.1.all ratOk = true) (hy : y.2.1.all ratOk = true) : cmpRows x y = 0 ↔ x.1 = y.1 ∧ x.2.1 = y.2.1 := by
  unfold cmpRows
  simp only [orI, cmpS_zero, cmpI_zero]
  have h3 := cmpArgs_zero hx hy
  by_cases h1 : x.1 = y.1
  · rw [if_pos h1]
    by_cases h2 : (x.2.1.length : Int) = y.2.1.length
    · rw [if_pos h2]
      split
      · rename_i h4; exact ⟨fun _ => ⟨h1, h3.1 h4⟩, fun _ => rfl⟩
      · rename_i h4; exact ⟨fun h => absurd h h4, fun h => absurd (h3.2 h.2) h4⟩
    · rw [if_neg h2, cmpI_zero]
      exact ⟨fun h => absurd h h2, fun h => absurd (by rw [h.2]) h2⟩
  · rw [if_neg h1, cmpS_zero]
    exact ⟨fun h => absurd h h1, fun h => absurd h.1 h1⟩
/-- Rows in order: each is below those behind it. -/
theorem mL_sorted : ∀ {m : Mdl} {p : Option Rw}, mL p m = true → (∀ q, p = some q → q.2.1.all ratOk = true → ∀ y ∈ m, rowLess q y = true) ∧ ∀ i j, i < j → j < m.length → rowLess (m.getD i dR) (m.getD j dR) = true
  | [], _, _ => ⟨fun _ _ _ y hy => (by cases hy), fun i j _ h => absurd h (Nat.not_lt_zero _)⟩
  | x :: m, p, h => by
    have hall := mL_mem h
    simp only [mL, Bool.and_eq_true] at h
    obtain ⟨⟨h1, h2⟩, h3⟩ := h
    have hx := (rowOk_iff.1 h1).2.2.2
    obtain ⟨i1, i2⟩ := mL_sorted h3
    have i1 := i1 x rfl hx
    refine ⟨fun q hq hqo y hy => ?_, fun i j hij hj => ?_⟩
    · subst hq
      rcases List.mem_cons.1 hy with e | e
      · subst e; exact h2
      · exact rowLess_trans hqo hx (rowOk_iff.1 (hall y (List.mem_cons_of_mem _ e))).2.2.2 h2 (i1 y e)
    · cases j with
      | zero => omega
      | succ j =>
        cases i with
        | zero => exact i1 _ (getD_mem dR (by simpa using hj))
        | succ i => exact i2 i j (by omega) (by simpa using hj)
theorem cmpRows_less {x y : Rw} (ha : x.2.1.all ratOk = true) (hb : y.2.1.all ratOk = true) : cmpRows x y < 0 ↔ rowLess x y = true := by
  unfold cmpRows rowLess
  simp only [orI, cmpS_zero, cmpI_zero]
  by_cases h1 : x.1 = y.1
  · rw [if_pos h1, if_pos h1]
    by_cases h2 : x.2.1.length = y.2.1.length
    · rw [if_pos (by omega), if_pos h2]
      have := cmpArgs_neg h2 ha hb
      split
      · rename_i h3; rw [← this, h3]
      · exact this
    · rw [if_neg (by omega), if_neg h2, cmpI_neg]
      simp only [decide_eq_true_eq]; omega
  · rw [if_neg h1, if_neg h1]; exact cmpS_neg
theorem rowLess_key {x y z : Rw} (h1 : y.1 = z.1) (h2 : y.2.1 = z.2.1) : rowLess x y = rowLess x z := by
  unfold rowLess; rw [h1, h2]

/-! ### The search -/
theorem bsF_spec {c : Nat → Bool} {n : Nat} (mono : ∀ a b, a ≤ b → b < n → c b = true → c a = true) : ∀ (d i j : Nat), j - i ≤ d → i ≤ j → j ≤ n →
    i ≤ bsF c i j ∧ bsF c i j ≤ j ∧ (∀ t, i ≤ t → t < bsF c i j → c t = true) ∧ (∀ t, bsF c i j ≤ t → t < j → c t = false)
  | 0, i, j, hd, hij, hj => by
    have e : i = j := by omega
    subst e
    rw [bsF, if_neg (Nat.lt_irrefl _)]
    exact ⟨Nat.le_refl _, Nat.le_refl _, fun t _ _ => by omega, fun t _ _ => by omega⟩
  | d + 1, i, j, hd, hij, hj => by
    by_cases h : i < j
    · rw [bsF, if_pos h]
      by_cases hc : c ((i + j) / 2) = true
      · rw [if_pos hc]
        obtain ⟨h1, h2, h3, h4⟩ := bsF_spec mono d ((i + j) / 2 + 1) j (by omega) (by omega) hj
        refine ⟨by omega, h2, fun t ht1 ht2 => ?_, h4⟩
        by_cases ht : t ≤ (i + j) / 2
        · exact mono t _ ht (by omega) hc
        · exact h3 t (by omega) ht2
      · rw [if_neg hc]
        obtain ⟨h1, h2, h3, h4⟩ := bsF_spec mono d i ((i + j) / 2) (by omega) (by omega) (by omega)
        refine ⟨h1, by omega, h3, fun t ht1 ht2 => ?_⟩
        by_cases ht : t < (i + j) / 2
        · exact h4 t ht1 ht
        · cases hct : c t with
          | false => rfl
          | true => exact absurd (mono _ t (by omega) (by omega) hct) hc
    · have e : i = j := by omega
      subst e
      rw [bsF, if_neg (Nat.lt_irrefl _)]
      exact ⟨Nat.le_refl _, Nat.le_refl _, fun t _ _ => by omega, fun t _ _ => by omega⟩
theorem look_hit {nm : ByteArray} {args : List Rt} : ∀ {m : Mdl} {k : Nat}, k < m.length → (m.getD k dR).1 = nm → (m.getD k dR).2.1 = args → (∀ t, t < k → ¬ ((m.getD t dR).1 = nm ∧ (m.getD t dR).2.1 = args)) → look m nm args = (m.getD k dR).2.2
  | [], k, h, _, _, _ => by simp at h
  | x :: m, 0, _, h1, h2, _ => by
    simp only [List.getD_cons_zero] at h1 h2 ⊢
    rw [look_cons, if_pos ⟨h1, h2⟩]
  | x :: m, k + 1, h, h1, h2, h3 => by
    have h0 := h3 0 (by omega)
    simp only [List.getD_cons_zero, List.getD_cons_succ] at h0 h1 h2 ⊢
    rw [look_cons, if_neg h0]
    exact look_hit (by simpa using h) h1 h2 fun t ht => by have := h3 (t + 1) (by omega); simpa only [List.getD_cons_succ] using this
theorem look_miss {nm : ByteArray} {args : List Rt} : ∀ {m : Mdl}, (∀ t, t < m.length → ¬ ((m.getD t dR).1 = nm ∧ (m.getD t dR).2.1 = args)) → look m nm args = (0, 1)
  | [], _ => rfl
  | x :: m, h => by
    have h0 := h 0 (by simp)
    simp only [List.getD_cons_zero] at h0
    rw [look_cons, if_neg h0]
    exact look_miss fun t ht => by have := h (t + 1) (by simpa using ht); simpa only [List.getD_cons_succ] using this
theorem search_look {m : Mdl} (h : mL none m = true) {r : Rw} (hr : r.2.1.all ratOk = true) : bsR m r ≤ m.length ∧ (bsHit m r = true → bsR m r < m.length ∧ look m r.1 r.2.1 = (m.getD (bsR m r) dR).2.2) ∧ (bsHit m r = false → look m r.1 r.2.1 = (0, 1)) := by
  have hm : ∀ t, t < m.length → (m.getD t dR).2.1.all ratOk = true := fun t ht => (rowOk_iff.1 (mL_mem h _ (getD_mem dR ht))).2.2.2
  have hs := (mL_sorted h).2
  have cl : ∀ t, t < m.length → (rowBelow m r t = true ↔ rowLess (m.getD t dR) r = true) := fun t ht => by
    unfold rowBelow; rw [decide_eq_true_eq]; exact cmpRows_less (hm t ht) hr
  have mono : ∀ a b, a ≤ b → b < m.length → rowBelow m r b = true → rowBelow m r a = true := fun a b hab hb hc => by
    by_cases e : a = b
    · rw [e]; exact hc
    · rw [cl b hb] at hc
      rw [cl a (by omega)]
      exact rowLess_trans (hm a (by omega)) (hm b hb) hr (hs a b (by omega) hb) hc
  obtain ⟨h1, h2, h3, h4⟩ := bsF_spec mono m.length 0 m.length (by omega) (by omega) (Nat.le_refl _)
  have e : bsF (rowBelow m r) 0 m.length = bsR m r := rfl
  rw [e] at h1 h2 h3 h4
  have less : ∀ t, t < bsR m r → ¬ ((m.getD t dR).1 = r.1 ∧ (m.getD t dR).2.1 = r.2.1) := fun t ht ⟨e1, e2⟩ => by
    have h5 := h3 t (by omega) ht
    rw [cl t (by omega), rowLess_key (y := r) (z := m.getD t dR) e1.symm e2.symm, rowLess_irrefl (hm t (by omega))] at h5
    cases h5
  refine ⟨h2, fun hh => ?_, fun hh => ?_⟩
  · simp only [bsHit, Bool.and_eq_true, decide_eq_true_eq] at hh
    obtain ⟨hlt, hz⟩ := hh
    obtain ⟨e1, e2⟩ := (cmpRows_zero (hm _ hlt) hr).1 hz
    exact ⟨hlt, look_hit hlt e1 e2 less⟩
  · refine look_miss fun t ht ⟨e1, e2⟩ => ?_
    rcases Nat.lt_trichotomy t (bsR m r) with h5 | h5 | h5
    · exact less t h5 ⟨e1, e2⟩
    · subst h5
      have := (cmpRows_zero (hm _ ht) hr).2 ⟨e1, e2⟩
      simp only [bsHit, this, decide_eq_true ht] at hh
      simp at hh
    · have h6 := hs (bsR m r) t h5 ht
      rw [rowLess_key e1 e2, ← cl _ (by omega), h4 _ (Nat.le_refl _) (by omega)] at h6
      cases h6
end Pl
namespace Cg
open Go Go.Proofs Pl

theorem mid_wrap {a b : Nat} (h : a + b ≤ 1099511627776) : IntKind.i64.wrap ((IntKind.u64.wrap (IntKind.i64.wrap ((a : Int) + (b : Int)))).fdiv 2) = (((a + b) / 2 : Nat) : Int) := by
  rw [wrap_small (x := (a : Int) + b) (by omega) (by omega)]
  have e : IntKind.u64.wrap ((a : Int) + b) = (a : Int) + b := by
    simp only [IntKind.wrap, IntKind.signed, IntKind.bits]
    simp
    omega
  rw [e]
  have e2 : ((a : Int) + b).fdiv 2 = (((a + b) / 2 : Nat) : Int) := by
    rw [Int.fdiv_eq_ediv_of_nonneg _ (by decide)]; omega
  rw [e2]
  exact wrap_small (by omega) (by omega)
theorem k_whole : SoundC Tryz.prog K_whole.1 K_whole.2 := sound_of hm CtxOK.nil (fun _ => []) (by kernel_rfl) fun (x : Int) hl => (by
  rw [← vc_whole x]
  simp [-List.getD_eq_getElem?_getD, -List.mem_cons, -Bool.forall_bool, -Bool.exists_bool, and_assoc, peta, tl_inj, ex_1, ex_2, ex_3, ex_4, ex_5, ex_6, ex_7, ex_8, ex_9, ey_2, ey_3, ey_4, ey_5, ey_6, ey_7, ey_8, ey_9])
theorem k_l7Look : SoundC Tryz.prog K_l7Look.1 K_l7Look.2 := sound_of hm (CtxOK.nil.and k_l7Rats) (fun x => A_l7Look x.1 x.2.1 x.2.2) (by kernel_rfl) fun (x : Mdl × ByteArray × List Rt) hl => (by
  rw [← vc_l7Look x]
  have h1 : SmM x.1 := hl
  obtain ⟨m, nm, args⟩ := x
  dsimp only at *
  simp [-List.getD_eq_getElem?_getD, -List.mem_cons, -Bool.forall_bool, -Bool.exists_bool, and_assoc, peta, tl_inj, ex_1, ex_2, ex_3, ex_4, ex_5, ex_6, ex_7, ex_8, ex_9, ey_2, ey_3, ey_4, ey_5, ey_6, ey_7, ey_8, ey_9]
  have hlen := h1.len
  refine ⟨⟨0, by simp, by simp, rfl⟩, fun k hk he => ⟨fun hlt => ?_, fun hge => ?_⟩⟩
  · rw [drop_get dR hlt, look_cons] at he
    have hz := (h1.mem (getD_mem dR hlt)).2
    refine ⟨hlt, fun e1 => ⟨hlt, by omega, fun e2 => ⟨hlt, ?_⟩, fun e2 => ⟨k + 1, hlt, ?_, by omega, wrap_small (by omega) (by omega)⟩⟩, fun e1 => ⟨k + 1, hlt, ?_, by omega, wrap_small (by omega) (by omega)⟩⟩
    · rw [he, if_pos ⟨e1, e2⟩]; exact ⟨rfl, rfl⟩
    · rw [he, if_neg (fun h => e2 h.2)]
    · rw [he, if_neg (fun h => e1 h.1)]
  · rw [he, drop_end (by omega)]; exact ⟨rfl, rfl⟩)
theorem k_l7Term (n : Nat) : SoundC Tryz.prog (K_l7Term n).1 (K_l7Term n).2 := by
  induction n with
  | zero => exact sound_of hm CtxOK.nil (fun _ => []) (by kernel_rfl) fun x h => absurd h.2 (Nat.not_lt_zero _)
  | succ n ih => exact sound_of hm ((CtxOK.nil.and (K := K_l7Term n) ih).and k_l7Look) (fun x => A_l7Term x.1 x.2.1 x.2.2) (by kernel_rfl) fun (x : Mdl × TP) hl => (by
      have hg : SmM x.1 := hl.1.1
      have ht : SmT (.mk x.2.1 x.2.2) := hl.1.2
      have hn : manyL x.2.2 < n + 1 := hl.2
      clear hl
      rw [← vc_l7Term n x]
      obtain ⟨m, a, b⟩ := x
      dsimp only at *
      simp [-List.getD_eq_getElem?_getD, -List.mem_cons, -Bool.forall_bool, -Bool.exists_bool, and_assoc, peta, tl_inj, ex_1, ex_2, ex_3, ex_4, ex_5, ex_6, ex_7, ex_8, ex_9, ey_2, ey_3, ey_4, ey_5, ey_6, ey_7, ey_8, ey_9]
      have k1 := (SmT.kids ht).len
      refine ⟨⟨0, by simp, by simp [valL], rfl, by simp [valL]⟩, fun k hk => ⟨fun hlt => ?_, fun hge => ?_⟩⟩
      · have hv := valL_step m hlt
        have hl1 := valL_len m (b.take k)
        rw [List.length_take] at hl1
        refine ⟨hlt, hg, (SmT.kids ht).mem (getD_mem dT hlt), by have := manyL_kids (getD_mem dT hlt); omega, by omega, k + 1, hlt, by omega, by rw [hv]; simp, wrap_small (by omega) (by omega), ?_⟩
        rw [hv]; exact rats_push
      · rw [List.take_of_length_le (by omega), valT_mk]; exact ⟨hg, rfl, rfl⟩)
theorem k_lTm : SoundC Tryz.prog K_lTm.1 K_lTm.2 := SoundC.fam (fun x => manyL x.2.2) fun n => k_l7Term n
theorem k_BinRow : SoundC Tryz.prog K_BinRow.1 K_BinRow.2 := sound_of hm (CtxOK.nil.and k_compareRows) (fun x => A_BinRow x.1 x.2) (by kernel_rfl) fun (x : Mdl × Rw) hl => (by
  rw [← vc_BinRow x]
  obtain ⟨h1, h2⟩ : SmM x.1 ∧ Sz x.2.2.1 := hl
  obtain ⟨m, nm, args, u1, u2⟩ := x
  dsimp only at *
  simp [-List.getD_eq_getElem?_getD, -List.mem_cons, -Bool.forall_bool, -Bool.exists_bool, and_assoc, peta, tl_inj, ex_1, ex_2, ex_3, ex_4, ex_5, ex_6, ex_7, ex_8, ex_9, ey_2, ey_3, ey_4, ey_5, ey_6, ey_7, ey_8, ey_9]
  have hlen := h1.len
  refine ⟨⟨0, m.length, by omega, by omega, rfl, rfl, rfl⟩, fun i j hij hj he => ⟨fun hlt => ?_, fun hge => ?_⟩⟩
  · rw [mid_wrap (by omega)]
    rw [bsF, if_pos hlt] at he
    have hm : (i + j) / 2 < m.length := by omega
    have hz := (h1.mem (getD_mem dR hm)).2
    refine ⟨by omega, by omega, by omega, by rw [Int.toNat_natCast]; omega, h2, fun h => ?_, fun h => ?_⟩
    · rw [Int.toNat_natCast] at h
      rw [if_pos (by unfold rowBelow; exact decide_eq_true h)] at he
      exact ⟨(i + j) / 2 + 1, j, by omega, hj, he, by omega, wrap_small (by omega) (by omega), rfl⟩
    · rw [Int.toNat_natCast] at h
      rw [if_neg (by unfold rowBelow; rw [decide_eq_true_eq]; omega)] at he
      exact ⟨i, (i + j) / 2, by omega, by omega, he, by omega, rfl, rfl⟩
  · rw [bsF, if_neg (by omega)] at he
    refine ⟨fun h => ⟨h, by have := (h1.mem (getD_mem dR h)).2; omega, h2, by rw [he], ?_⟩, fun h => ⟨by rw [he], ?_⟩⟩
    · unfold bsHit
      rw [he, decide_eq_true h, Bool.true_and, Bool.beq_eq_decide_eq]
    · unfold bsHit
      rw [he, decide_eq_false (by omega)]; rfl)
theorem k_value (n : Nat) : SoundC Tryz.prog (K_value n).1 (K_value n).2 := by
  induction n with
  | zero => exact sound_of hm CtxOK.nil (fun _ => []) (by kernel_rfl) fun x h => absurd h.2 (Nat.not_lt_zero _)
  | succ n ih => exact sound_of hm (((CtxOK.nil.and (K := K_value n) ih).and k_BinRow).and k_whole) (fun x => A_value x.1 x.2.1 x.2.2) (by kernel_rfl) fun (x : Mdl × TP) hl => (by
      have hs : mL none x.1 = true := hl.1.1
      have hg : SmM x.1 := hl.1.2.1
      have ht : SmT (.mk x.2.1 x.2.2) := hl.1.2.2
      have hn : manyL x.2.2 < n + 1 := hl.2
      clear hl
      rw [← vc_value n x]
      obtain ⟨m, a, b⟩ := x
      dsimp only at *
      simp [-List.getD_eq_getElem?_getD, -List.mem_cons, -Bool.forall_bool, -Bool.exists_bool, and_assoc, peta, tl_inj, ex_1, ex_2, ex_3, ex_4, ex_5, ex_6, ex_7, ex_8, ex_9, ey_2, ey_3, ey_4, ey_5, ey_6, ey_7, ey_8, ey_9]
      have k1 := (SmT.kids ht).len
      have hl0 := valL_len m (b.take 0)
      refine ⟨⟨0, by simp, rfl, by simp [valL]⟩, fun k hk => ⟨fun hlt => ?_, fun hge => ?_⟩⟩
      · have hv := valL_step m hlt
        have hl1 := valL_len m (b.take k)
        rw [List.length_take] at hl1
        refine ⟨hlt, hs, hg, (SmT.kids ht).mem (getD_mem dT hlt), by have := manyL_kids (getD_mem dT hlt); omega, by omega, k + 1, hlt, by omega, wrap_small (by omega) (by omega), by rw [hv]; simp, ?_⟩
        rw [hv]; exact rats_push
      · rw [List.take_of_length_le (by omega), valT_mk]
        obtain ⟨_, s1, s2⟩ := search_look hs (r := (a, valL m b, 0, 0)) (valL_ok hs b)
        dsimp only at s1 s2
        refine ⟨hg, by rw [valL_len]; omega, fun h => ?_, fun h => ?_⟩
        · rw [s2 h]; exact ⟨rfl, rfl⟩
        · obtain ⟨s3, s4⟩ := s1 h
          rw [s4]; exact ⟨s3, rfl, rfl⟩)
theorem k_val : SoundC Tryz.prog K_val.1 K_val.2 := SoundC.fam (fun x => manyL x.2.2) fun n => k_value n
end Cg
