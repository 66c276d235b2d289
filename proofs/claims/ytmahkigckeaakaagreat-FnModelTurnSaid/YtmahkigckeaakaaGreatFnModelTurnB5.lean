/-
  What the law leans on, part 5. No condition.
-/
import Derived.Test.YtmahkigckeaakaaGreatFnModelTurnB1
import Derived.Test.YtmahkigckeaakaaGreatFnModelTurnB2
import Derived.Test.YtmahkigckeaakaaGreatFnModelTurnB3
import Derived.Test.YtmahkigckeaakaaGreatFnModelTurnB4
/-
  The codes' contracts: drawn models, the rest, and the law that models are compared exactly. No condition.
-/
set_option linter.unusedVariables false
set_option linter.unusedSimpArgs false
set_option maxRecDepth 100000
namespace Cg
open Go Go.Proofs Pl
theorem sg_sm {n k : Nat} {s : Pl.Sig} (h : SgB n k s) (hn : n ≤ 100 := by decide) (hk : k ≤ 100 := by decide) : costG s ≤ 1048576 := by
  have : sumN costY s ≤ s.length * 110 := sumN_le fun x hx => by have := h.2 x hx; unfold costY; omega
  have h1 := h.1
  have : s.length * 110 ≤ 100 * 110 := Nat.mul_le_mul_right _ (by omega)
  unfold costG; omega
theorem md_sm {n k : Nat} {m : Mdl} (h : MdB n k m) (hn : n ≤ 100 := by decide) (hk : k ≤ 100 := by decide) : costM m ≤ 1048576 := by
  have : sumN costR m ≤ m.length * 110 := sumN_le fun x hx => by have := h.2 x hx; unfold costR; omega
  have h1 := h.1
  have : m.length * 110 ≤ 100 * 110 := Nat.mul_le_mul_right _ (by omega)
  unfold costM; omega
theorem k_l7Any : SoundC Tryz.prog K_l7Any.1 K_l7Any.2 := sound_of hm (((CtxOK.nil.and k_l7PutX).and k_l7Value).and k_num) (fun (b, p, s) => A_l7Any b p s) (by kernel_rfl) fun ((b, p, s) : List Int × Int × Pl.Sig) hb => (by
  obtain ⟨h1, h2⟩ : Rd 137438953472 b p ∧ SgB 5 2 s := hb
  rw [← vc_l7Any b p s]
  simp [-List.getD_eq_getElem?_getD, -List.mem_cons, -Bool.forall_bool, -Bool.exists_bool, and_assoc, peta, tl_inj, ex_1, ex_2, ex_3, ex_4, ex_5, ex_6, ex_7, ex_8, ex_9, ey_2, ey_3, ey_4, ey_5, ey_6, ey_7, ey_8, ey_9]
  obtain ⟨s1, s2⟩ : s.length ≤ 5 ∧ ∀ x ∈ s, x.1.size ≤ 10 ∧ x.2.1.length ≤ 2 := id h2
  have g3 := h1.2.2.1
  have g4 := h1.2.2.2
  refine ⟨⟨0, by omega, [], ⟨Nat.zero_le _, fun x hx => by cases hx⟩, by omega, rfl, rfl, rfl⟩, fun i m q hi hm q1 q2 => ⟨fun hlt => ⟨h1.to (by omega) (by omega), fun y hy => ⟨?_, fun k m q hk1 hk2 hm q3 q4 => ⟨fun hk => ?_, fun hk => ?_⟩⟩⟩, fun hge => ?_⟩⟩
  · simp at hy
    exact ⟨y, by omega, by omega, m, hm.mono (by omega) (Nat.le_refl _), by omega, by omega, rfl, rfl, xrR_self⟩
  · have hN := s2 _ (getD_mem dY hlt)
    have hr1 : Rd 549755813888 b q := h1.to (by omega) (by omega)
    have init : ∀ b3 : Int, q ≤ b3 → b3 ≤ q + 2 → ∃ a_18, a_18 ≤ (s.getD i dY).snd.fst.length ∧ ∃ a_19 : List Rt, a_19.length = a_18 ∧ p ≤ b3 ∧ b3 ≤ p + 100 * (i : Int) + 3 + 30 * (3 - k) + 2 * (a_18 : Int) ∧ (0 : Int) = a_18 ∧ a_19 = [] := fun b3 e1 e2 =>
      ⟨0, by omega, [], rfl, by omega, by omega, rfl, rfl⟩
    have stp : ∀ (j : Nat) (al : List Rt) (u : Int), al.length = j → p ≤ u → u ≤ p + 100 * (i : Int) + 3 + 30 * (3 - k) + 2 * (j : Int) → j < (s.getD i dY).snd.fst.length → ∀ (v w u' : Int), u ≤ u' → u' ≤ u + 2 → (al.length + 1) * 16 ≤ 70368744177664 ∧
        ∃ a_29, a_29 ≤ (s.getD i dY).snd.fst.length ∧ ∃ a_30, a_30.length = a_29 ∧ p ≤ u' ∧ u' ≤ p + 100 * (i : Int) + 3 + 30 * (3 - k) + 2 * (a_29 : Int) ∧ (s.getD i dY).snd.fst.length - a_29 < (s.getD i dY).snd.fst.length - j ∧ IntKind.i64.wrap ((j : Int) + 1) = (a_29 : Int) ∧ al.length + 1 = a_30.length ∧
        IsO (AObj.arr (al.length + 1) 2 (joinC al.length (cQ al) (rowsCell [[i64 v, i64 w]]))) (arQ a_30) := fun j al u e1 e2 e3 e4 v w u' e5 e6 =>
      ⟨by omega, j + 1, by omega, al ++ [(v, w)], by simp; omega, by omega, by omega, by omega, wrap_succ e4 (by omega), by simp, IsO_join EncN.eQ (IsR_row EncN.eQ fun j hj => by
        match j, hj with
        | 0, _ => exact Is_i64.2 rfl
        | 1, _ => exact Is_i64.2 rfl)⟩
    have ext : ∀ (j : Nat) (al : List Rt) (v w u : Int), j ≤ (s.getD i dY).snd.fst.length → al.length = j → p ≤ u → u ≤ p + 100 * (i : Int) + 3 + 30 * (3 - k) + 2 * (j : Int) →
        ∃ a_26 : List Rw, a_26.length ≤ 1000 ∧ (∀ (a : ByteArray) (a_27 : List Rt) (a_28 b : Int), (a, a_27, a_28, b) ∈ a_26 → a_27.length ≤ 1000) ∧ ∃ (a_27 : ByteArray) (a_28 : List Rt), a_28.length ≤ 1000 ∧ m.length = a_26.length ∧ (s.getD i dY).fst = a_27 ∧ al.length = a_28.length ∧ IsO (xrR m) (xrR a_26) ∧ (a_28 = [] ∨ al = a_28) ∧
          ∀ y : List Nat, HPut a_26.length y → ∃ a_30 : Int, 0 ≤ a_30 ∧ a_30 ≤ 3 ∧ ∃ a_31 : Mdl, MdB (3 * i + 3 - a_30.toNat) 2 a_31 ∧ p ≤ u ∧ u ≤ p + 100 * (i : Int) + 1 + 30 * (3 - a_30) ∧ max a_30 0 < k ∧ y.length = a_31.length ∧ IntKind.i64.wrap (k - 1) = a_30 ∧
            IsO (xrR (List.map (fun i => (a_26 ++ [(a_27, a_28, v, w)]).getD i dR) y)) (xrR a_31) := fun j al v w u e1 e2 e3 e4 => by
      obtain ⟨m1, m2⟩ : m.length ≤ 3 * i + 3 - k.toNat ∧ ∀ x ∈ m, x.1.size ≤ 10 ∧ x.2.1.length ≤ 2 := id hm
      refine ⟨m, by omega, fun a b c d h => by have := (m2 _ h).2; dsimp only at this; omega, (s.getD i dY).fst, al, by omega, rfl, rfl, rfl, xrR_self, .inr rfl, fun y hy => ?_⟩
      obtain ⟨y1, y2, y3⟩ := hy
      refine ⟨k - 1, by omega, by omega, List.map (fun i' => (m ++ [((s.getD i dY).fst, al, v, w)]).getD i' dR) y, ⟨by simp; omega, fun x hx => ?_⟩, by omega, by omega, by omega, by simp, wrap_small (by omega) (by omega), xrR_self⟩
      obtain ⟨n, hn, rfl⟩ := List.mem_map.1 hx
      have hn' := y3 n hn
      have : (m ++ [((s.getD i dY).fst, al, v, w)]).getD n dR ∈ m ++ [((s.getD i dY).fst, al, v, w)] := getD_mem dR (by simp; omega)
      rcases List.mem_append.1 this with e | e
      · exact m2 _ e
      · rw [List.mem_singleton.1 e]; exact ⟨hN.1, by dsimp only; omega⟩
    repeat' first
      | exact hlt
      | exact hr1
      | apply And.intro
    all_goals
      intro b3 h3 h4
      repeat' first
        | exact hlt
        | exact init b3 h3 h4
        | apply And.intro
    all_goals
      intro j al v w u e1 e2 e3 e4
      repeat' first
        | exact hlt
        | exact fun e5 => ext j al v w u e1 e2 e3 e4
        | apply And.intro
    all_goals
      intro e5
      repeat' first
        | exact hlt
        | exact e5
        | exact h1.to (by omega) (by omega)
        | exact fun v w u' => stp j al u e2 e3 e4 e5 v w u'
        | apply And.intro
  · obtain rfl : k = 0 := by omega
    exact ⟨i + 1, by omega, m, hm.mono (by simp; omega) (Nat.le_refl _), by omega, by omega, by omega, rfl, wrap_succ hlt (by omega), xrR_self⟩
  · exact ⟨m, hm.mono (by omega) (Nat.le_refl _), by omega, by omega, rfl, xrR_self⟩)
theorem k_l7Some : SoundC Tryz.prog K_l7Some.1 K_l7Some.2 := k_l7Some0 k_l7Any
end Cg

/-
  The codes' contracts: drawn terms, and the law that functions are functional. No condition.
-/
set_option linter.unusedVariables false
set_option linter.unusedSimpArgs false
set_option maxRecDepth 100000
namespace Cg
open Go Go.Proofs Pl
theorem copy_push {ks : List Tm} {k : Nat} (hk : k ≤ ks.length) (hlt : k < ks.length) : IsO (AObj.arr (min k ks.length + 1) 2 (joinC (min k ks.length) (cT (List.take k ks)) (rowsCell [[st (Tree.val (ks.getD k dT)), terms (Tree.kids (ks.getD k dT))]]))) (arT (List.take (k + 1) ks)) := by
  have hlen : (ks.take k).length = k := by simp; omega
  rw [Nat.min_eq_left hk, Pl.take_succ_getD dT hlt]
  have := IsO_join (l := ks.take k) (m := [ks.getD k dT]) (d := dT) EncN.eT (IsR_row EncN.eT (Is_rowK rfl (Is_terms_kidsT.2 rfl)))
  rw [hlen] at this
  exact this
theorem namesT : ∀ y ∈ [(⟨#[]⟩ : ByteArray), ⟨#[65]⟩, ⟨#[97, 98, 99]⟩, ⟨#[102]⟩], y.size ≤ 10 := by decide
theorem LitR.rds {α : Type} {k : Nat} {e : α → Nat → AV} {d : α} {rows : List (List AV)} {l : List α} (h : LitR k e d rows l) : Rds k e d rows.length (rowsCell rows) l := ⟨h.1, fun i hi j hj => h.2 i hi j hj⟩
theorem CB_ge (n : Nat) : 12 ≤ CB n := by cases n <;> (unfold CB; omega)
theorem k_l4Copy : ∀ n, SoundC Tryz.prog (K_l4Copy n).1 (K_l4Copy n).2
  | 0 => ⟨by exact callable_of (by kernel_rfl), fun x hx => absurd hx.2 (Nat.not_lt_zero _)⟩
  | n + 1 => sound_of hm (CtxOK.nil.and (K := K_l4Copy n) (k_l4Copy n)) (fun (x : TP) => A_l4Copy x.1 x.2) (by kernel_rfl) fun (x : TP) hl => (by
    obtain ⟨v, ks⟩ := x
    obtain ⟨h1, h2⟩ : SmT (.mk v ks) ∧ manyL ks < n + 1 := hl
    rw [← vc_l4Copy n v ks]
    simp [-List.getD_eq_getElem?_getD, -List.mem_cons, -Bool.forall_bool, -Bool.exists_bool, and_assoc, peta, tl_inj, ex_1, ex_2, ex_3, ex_4, ex_5, ex_6, ex_7, ex_8, ex_9, ey_2, ey_3, ey_4, ey_5, ey_6, ey_7, ey_8, ey_9]
    refine ⟨⟨0, by omega, rfl, rfl, .inl rfl⟩, fun k hk => ⟨fun hlt => ?_, fun hge => List.take_of_length_le hge⟩⟩
    have ht := getD_mem dT hlt
    have c1 := costT_mem ht
    have c2 := costT_eq (.mk v ks)
    simp only [Tree.val_mk, Tree.kids_mk] at c2
    have m1 := many_mem ht
    have m2 := (ks.getD k dT).many_eq
    exact ⟨hlt, by omega, by omega, by omega, k + 1, hlt, by omega, wrap_succ hlt (by omega), by omega, copy_push hk hlt⟩)
theorem k_lCopy : SoundC Tryz.prog K_lCopy.1 K_lCopy.2 := SoundC.famI (fun (x : TP) => manyL x.2) k_l4Copy
theorem k_l4CopyO : SoundC Tryz.prog K_l4CopyO.1 K_l4CopyO.2 := sound_of hm (CtxOK.nil.and k_lCopy) (fun (x : TP) => A_l4CopyO x.1 x.2) (by kernel_rfl) fun (x : TP) hl => (by
  obtain ⟨v, ks⟩ := x
  replace hl : SmT (.mk v ks) := hl
  rw [← vc_l4CopyO v ks]
  simp [-List.getD_eq_getElem?_getD, -List.mem_cons, -Bool.forall_bool, -Bool.exists_bool, and_assoc, peta, tl_inj, ex_1, ex_2, ex_3, ex_4, ex_5, ex_6, ex_7, ex_8, ex_9, ey_2, ey_3, ey_4, ey_5, ey_6, ey_7, ey_8, ey_9]
  refine ⟨⟨0, by omega, rfl, rfl, .inl rfl⟩, fun k hk => ⟨fun hlt => ?_, fun hge => List.take_of_length_le hge⟩⟩
  have ht := getD_mem dT hlt
  have c1 := costT_mem ht
  have c2 := costT_eq (.mk v ks)
  simp only [Tree.val_mk, Tree.kids_mk] at c2
  exact ⟨hlt, by omega, by omega, k + 1, hlt, by omega, wrap_succ hlt (by omega), by omega, copy_push hk hlt⟩)
theorem k_l4Any : ∀ n, SoundC Tryz.prog (K_l4Any n).1 (K_l4Any n).2
  | 0 => ⟨by exact callable_of (by kernel_rfl), fun x hx => absurd hx.2 (Nat.not_lt_zero _)⟩
  | n + 1 => sound_of hm ((CtxOK.nil.and (K := K_l4Any n) (k_l4Any n)).and k_pick) (fun ((b, p, s, u, d) : AX) => A_l4Any b p s u d) (by kernel_rfl) fun ((b, p, s, u, d) : AX) hl => (by
    obtain ⟨⟨h1, h1', h2, h3⟩, h4⟩ : (Rd 137438953472 b p ∧ p + CB d.toNat ≤ 137438953472 ∧ SgB 5 2 s ∧ d ≤ 4) ∧ d.toNat < n + 1 := hl
    rw [← vc_l4Any n b p s u d]
    simp [-List.getD_eq_getElem?_getD, -List.mem_cons, -Bool.forall_bool, -Bool.exists_bool, and_assoc, peta, tl_inj, ex_1, ex_2, ex_3, ex_4, ex_5, ex_6, ex_7, ex_8, ex_9, ey_2, ey_3, ey_4, ey_5, ey_6, ey_7, ey_8, ey_9]
    have g3 := h1.2.2.1
    have g4 := h1.2.2.2
    obtain ⟨s1, s2⟩ : s.length ≤ 5 ∧ ∀ x ∈ s, x.1.size ≤ 10 ∧ x.2.1.length ≤ 2 := id h2
    have hC := CB_ge d.toNat
    refine ⟨⟨0, by omega, [], Nat.le_refl _, fun x hx => (by cases hx), rfl, rfl, rfl, rfl⟩, fun i ws hi hw hwd => ⟨fun hlt => ?_, fun hge => ⟨fun hnil => ?_, fun hne => ?_⟩⟩⟩
    · have h5 := s2 _ (getD_mem dY hlt)
      have keep : ∃ a_8, a_8 ≤ s.length ∧ ∃ x : List Sym, x.length ≤ a_8 ∧ WdB d x ∧ s.length - a_8 < s.length - i ∧ ws.length = x.length ∧ IntKind.i64.wrap ((i : Int) + 1) = (a_8 : Int) ∧ (x = [] ∨ ws = x) :=
        ⟨i + 1, by omega, ws, by omega, hwd, by omega, rfl, wrap_succ hlt (by omega), .inr rfl⟩
      have push : (d ≤ 1 → (s.getD i dY).2.1 = []) → (ws.length + 1) * 48 ≤ 70368744177664 ∧ ∃ a_8, a_8 ≤ s.length ∧ ∃ x : List Sym, x.length ≤ a_8 ∧ WdB d x ∧ s.length - a_8 < s.length - i ∧ ws.length + 1 = x.length ∧ IntKind.i64.wrap ((i : Int) + 1) = (a_8 : Int) ∧
          IsO (AObj.arr (ws.length + 1) 3 (joinC ws.length (cY ws) (rowsCell [[st (s.getD i dY).fst, ints (s.getD i dY).snd.fst, i64 (s.getD i dY).snd.snd]]))) (arY x) := fun h6 =>
        ⟨by omega, i + 1, by omega, ws ++ [s.getD i dY], by simp; omega, mem_push_imp hwd ⟨h5.1, h5.2, h6⟩, by omega, by simp, wrap_succ hlt (by omega), IsO_join EncN.eY (IsR_row EncN.eY (Is_rowY (Is_ints.2 rfl)))⟩
      exact ⟨hlt, fun he => ⟨fun hd => ⟨hlt, push fun h => absurd h (by omega)⟩, fun hd => ⟨hlt, fun ha => ⟨hlt, push fun _ => ha⟩, fun _ => keep⟩⟩, fun _ => keep⟩
    · refine ⟨⟨#[113]⟩, [], ?_, by omega, rfl, rfl⟩
      show costT (.mk ⟨#[113]⟩ []) ≤ _
      rw [costT_eq]
      simp only [Tree.val_mk, Tree.kids_mk, costTs, List.length_nil]
      have : (⟨#[113]⟩ : ByteArray).size = 1 := rfl
      omega
    · refine ⟨h1.to (by omega) (by omega), fun y hy _ => ?_⟩
      have hw0 : 0 < ws.length := List.length_pos_iff.2 hne
      obtain ⟨y1, y2⟩ := hy (by omega)
      have hyl : y.toNat < ws.length := by omega
      have hwy := hwd _ (getD_mem dY hyl)
      refine ⟨y1, y2, hyl, ⟨(ws.getD y.toNat dY).1, (ws.getD y.toNat dY).2.1, (ws.getD y.toNat dY).2.2, fun x hx => by rw [List.mem_singleton.1 hx]; exact hwy, 0, Nat.zero_le _, [], rfl, Nat.zero_le _, by omega, by simp, rfl, rfl, rfl, rfl, rfl, rfl⟩, fun nm args so j kids q hw1 hj hkl hc q1 q2 => ⟨fun hlt => ?_, fun hge => ?_⟩⟩
      · obtain ⟨a1, a2, a3⟩ := hw1 _ List.mem_cons_self
        dsimp only at a1 a2 a3
        have hd : 2 ≤ d := Classical.byContradiction fun h => by
          have := a3 (by omega)
          rw [this] at hlt; exact absurd hlt (Nat.not_lt_zero _)
        have hdn : d.toNat = (d.toNat - 1) + 1 := by omega
        have hCe : CB d.toNat = 12 + 2 * CB (d.toNat - 1) := by rw [hdn]; rfl
        have hw2 : IntKind.i64.wrap (d - 1) = d - 1 := wrap_small (by omega) (by omega)
        have hdt : (d - 1).toNat = d.toNat - 1 := by omega
        rw [hw2, hdt]
        generalize hCC : CB (d.toNat - 1) = C at *
        have hj2 : (j : Int) * C ≤ C := by
          have : j = 0 ∨ j = 1 := by omega
          rcases this with rfl | rfl <;> simp <;> omega
        have hj3 : ((j + 1 : Nat) : Int) * C = j * C + C := by push_cast; rw [Int.add_mul, Int.one_mul]
        have hcn : (j + 1) * C = j * C + C := Nat.succ_mul j C
        refine ⟨hlt, h1.to (by omega) (by omega), by omega, h2, by omega, by omega, fun nm2 k2 q' ht q3 q4 => ⟨by omega, nm, args, so, hw1, j + 1, hlt, kids ++ [.mk nm2 k2], by simp; omega, ?_, by omega, by rw [hj3]; omega, by omega, wrap_succ hlt (by omega), rfl, rfl, rfl, rfl, by simp, IsO_join EncN.eT (IsR_row EncN.eT (Is_rowT (Is_terms.2 rfl)))⟩⟩
        have ht' : costT (.mk nm2 k2) ≤ C := ht
        rw [costTs_snoc, hcn]
        omega
      · obtain ⟨a1, a2, a3⟩ := hw1 _ List.mem_cons_self
        dsimp only at a1 a2 a3
        have c2 := costT_eq (.mk nm kids)
        simp only [Tree.val_mk, Tree.kids_mk] at c2
        by_cases hd : d ≤ 1
        · have h0 : j = 0 := by have := a3 hd; rw [this] at hj; simpa using hj
          subst h0
          refine ⟨nm, kids, ?_, q1, ?_, rfl, rfl, .inr rfl⟩
          · show costT (.mk nm kids) ≤ _
            simp at hc
            omega
          · simp at q2
            omega
        · have hdn : d.toNat = (d.toNat - 1) + 1 := by omega
          have hCe : CB d.toNat = 12 + 2 * CB (d.toNat - 1) := by rw [hdn]; rfl
          have hj2 : j * CB (d.toNat - 1) ≤ 2 * CB (d.toNat - 1) := Nat.mul_le_mul_right _ (by omega)
          have hj3 : (j : Int) * (CB (d.toNat - 1) : Int) = ((j * CB (d.toNat - 1) : Nat) : Int) := by push_cast; rfl
          rw [hj3] at q2
          generalize hm : j * CB (d.toNat - 1) = M at *
          refine ⟨nm, kids, ?_, q1, ?_, rfl, rfl, .inr rfl⟩
          · show costT (.mk nm kids) ≤ _
            omega
          · omega)
theorem k_lAny : SoundC Tryz.prog K_lAny.1 K_lAny.2 := SoundC.famE (fun (x : AX) => x.2.2.2.2.toNat) k_l4Any
set_option maxHeartbeats 8000000 in
theorem g_l4Some (b : List Int) (p : Int) (s : Pl.Sig) (h1 : Rd 68719476736 b p) (h2 : SgB 5 2 s) : GoalW Tryz.prog [K_pick, K_num, K_of, K_lAny, K_l4CopyO] ([]) K_l4Some.1 K_l4Some.2 (b, p, s) := GoalW.of (vc_l4Some b p s) (by
  simp (maxSteps := 2000000) [-List.getD_eq_getElem?_getD, -List.mem_cons, -Bool.forall_bool, -Bool.exists_bool, and_assoc, peta, tl_inj, ex_1, ex_2, ex_3, ex_4, ex_5, ex_6, ex_7, ex_8, ex_9, ey_2, ey_3, ey_4, ey_5, ey_6, ey_7, ey_8, ey_9]
  have g3 := h1.2.2.1
  have g4 := h1.2.2.2
  refine ⟨h1.to (by omega) (by omega), fun y _ _ => ⟨h1.to (by omega) (by omega), fun d hd => ?_⟩⟩
  have hC : CB d.toNat ≤ 372 ∧ d ≤ 4 := by
    simp at hd
    rcases hd with rfl | rfl | rfl | rfl <;> exact ⟨by decide, by decide⟩
  refine ⟨h1.to (by omega) (by omega), by omega, h2, hC.2, fun a ks q ht q1 q2 => ⟨h1.to (by omega) (by omega), fun z _ _ => ?_⟩⟩
  have ht' : costT (.mk a ks) ≤ CB d.toNat := ht
  have c2 := costT_eq (.mk a ks)
  simp only [Tree.val_mk, Tree.kids_mk] at c2
  have c3 : ∀ (v : ByteArray) (l : List Tm), costT (.mk v l) = v.size + l.length + costTs l := fun v l => by
    have := costT_eq (.mk v l)
    simpa only [Tree.val_mk, Tree.kids_mk] using this
  have h0j : LitR 2 eT dT [[st a, terms ks]] [Tree.mk a ks] := LitR.nil.cons (Is_rowT (Is_terms.2 rfl))
  have h1j := (Rds.cel (d := dT) EncN.eT ks).join h0j.rds
  have h2j := (Rds.cel (d := dT) EncN.eT ks).join (h0j.cons (r := [st a, terms ks]) (v := Tree.mk a ks) (Is_rowT (Is_terms.2 rfl))).rds
  refine ⟨fun _ => ⟨h1.to (by omega) (by omega), fun nm hnm => ⟨?_, by omega, by omega⟩⟩, fun _ => ⟨fun _ => ?_, fun _ => ⟨fun _ => ?_, fun _ => ⟨?_, by omega, by omega⟩⟩⟩⟩
  · have := namesT nm hnm
    show costT (.mk nm ks) ≤ 1500
    rw [c3]; omega
  · refine ⟨a, ks, by omega, rfl, rfl, .inr rfl, by omega, by omega, a, ks ++ [Tree.mk a ks], ?_, by omega, by omega, rfl, h1j.is⟩
    show costT (.mk a (ks ++ [.mk a ks])) ≤ 1500
    rw [c3, costTs_snoc, List.length_append, List.length_singleton]; omega
  · refine ⟨a, ks, by omega, rfl, rfl, .inr rfl, a, ks, by omega, rfl, rfl, .inr rfl, by omega, by omega, a, ks ++ [Tree.mk a ks, Tree.mk a ks], ?_, by omega, by omega, rfl, h2j.is⟩
    show costT (.mk a (ks ++ [.mk a ks, .mk a ks])) ≤ 1500
    have e : ks ++ [.mk a ks, .mk a ks] = (ks ++ [.mk a ks]) ++ [.mk a ks] := by simp
    rw [e, c3, costTs_snoc, costTs_snoc, List.length_append, List.length_append, List.length_singleton]; omega
  · show costT (.mk a ks) ≤ 1500
    omega)
theorem k_l4Some : SoundC Tryz.prog K_l4Some.1 K_l4Some.2 := sound_ofW hm (((((CtxOK.nil.and k_l4CopyO).and k_lAny).and k_of).and k_num).and k_pick) (fun _ => []) (by kernel_rfl) fun ((b, p, s) : List Int × Int × Pl.Sig) hb => g_l4Some b p s hb.1 hb.2
theorem Is_rowsI {α : Type} {k : Nat} {e : α → Nat → AV} {d : α} (hk : 0 < k) {v : α} {m : List α} {r : List AV} (h : ∀ v', (∀ j, j < k → Is (r.getD j .any) (e v' j)) ↔ v = v') :
    Is (.lit 1 k (rowsCell [r])) (.sl m.length k fun i j => e (m.getD i d) j) ↔ [v] = m := by
  constructor
  · intro h'
    rw [Is] at h'
    obtain ⟨h1, h2⟩ := h'
    match m, h1 with
    | [x], _ =>
      congr 1
      refine (h x).1 fun j hj => ?_
      rcases h2 with h2 | ⟨_, h2⟩
      · omega
      · exact h2 0 (by omega) j hj
  · rintro rfl
    refine Is_lit_of rfl fun i hi j hj => ?_
    have : i = 0 := by simpa using hi
    subst this
    exact (h v).2 rfl j hj
@[simp] theorem terms_lit1 {a : ByteArray} {ks m : List Tm} : Is (.lit 1 2 (rowsCell [[st a, terms ks]])) (terms m) ↔ [Tree.mk a ks] = m := Is_rowsI (e := eT) (d := dT) (by decide) fun v' => by
  constructor
  · intro h
    have h0 : Is (st a) (st v'.val) := h 0 (by decide)
    have h1 : Is (terms ks) (kidsT v') := h 1 (by decide)
    exact Tree.ext (Is_st.1 h0) (Is_terms_kidsT.1 h1)
  · rintro rfl j hj
    exact Is_rowT (Is_terms.2 rfl) j hj
@[simp] theorem terms_lit0 {a : ByteArray} {q : Nat} {c : Nat → Nat → AV} {m : List Tm} : Is (.lit 1 2 (rowsCell [[st a, .lit 0 q c]])) (terms m) ↔ [Tree.mk a []] = m := Is_rowsI (e := eT) (d := dT) (by decide) fun v' => by
  constructor
  · intro h
    have h0 : Is (st a) (st v'.val) := h 0 (by decide)
    have h1 : Is (.lit 0 q c) (kidsT v') := h 1 (by decide)
    unfold kidsT at h1
    rw [Is] at h1
    exact Tree.ext (Is_st.1 h0) (List.eq_nil_of_length_eq_zero h1.1.symm).symm
  · rintro rfl j hj
    exact Is_rowT (terms_nil.2 rfl) j hj
end Cg

/-
  The codes' contracts: drawn atoms. No condition.
-/
set_option linter.unusedVariables false
set_option linter.unusedSimpArgs false
set_option maxRecDepth 100000
namespace Cg
open Go Go.Proofs Pl
theorem _root_.Pl.PutB.nil {ns : List Tm} {t : Tm} {n : Nat} : PutB ns t n [] [] := ⟨Nat.zero_le _, rfl, fun u hu => by cases hu⟩
theorem _root_.Pl.PutB.push {ns : List Tm} {t u : Tm} {n n' : Nat} {ms : List Tm} {ts : List Int} {c : Int} (h : PutB ns t n ms ts) (hu : u ∈ ns ∨ u = t) (hn : n + 1 ≤ n') : PutB ns t n' (ms ++ [u]) (ts ++ [c]) :=
  ⟨by have := h.1; simp; omega, by have := h.2.1; simp; omega, mem_push_imp h.2.2 hu⟩
theorem _root_.Pl.PutB.mono {ns : List Tm} {t : Tm} {n n' : Nat} {ms : List Tm} {ts : List Int} (h : PutB ns t n ms ts) (hn : n ≤ n') : PutB ns t n' ms ts := ⟨Nat.le_trans h.1 hn, h.2⟩
theorem _root_.Pl.AtB.mono {n n' : Nat} {x : Atm} (h : AtB n x) (hn : n ≤ n') : AtB n' x := ⟨h.1, h.2.1, Nat.le_trans h.2.2.1 hn, Nat.le_trans h.2.2.2.1 hn, h.2.2.2.2⟩
theorem costTs_le {c : Nat} : ∀ {l : List Tm}, (∀ t ∈ l, costT t ≤ c) → costTs l ≤ l.length * c
  | [], _ => Nat.zero_le _
  | t :: ts, h => by
    have h1 := h t List.mem_cons_self
    have h2 := costTs_le (l := ts) fun u hu => h u (List.mem_cons_of_mem _ hu)
    rw [costTs, List.length_cons, Nat.succ_mul]; omega
theorem at_sm {n : Nat} {x : Atm} (h : AtB n x) (hn : n ≤ 100 := by decide) : costA x ≤ 1048576 := by
  obtain ⟨h1, h2, h3, h4, h5⟩ := h
  have h6 := costTs_le h5
  have h7 : x.2.2.2.1.length * 400 ≤ 100 * 400 := Nat.mul_le_mul_right _ (by omega)
  unfold costA; omega
theorem Rds.tm (a : ByteArray) (ks : List Tm) : Rds 2 eT dT 1 (rowsCell [[st a, terms ks]]) [.mk a ks] := Rds.row (terms_row a ks)
theorem Rds.tk (t : Tm) : Rds 2 eT dT 1 (rowsCell [[st (Tree.val t), kidsT t]]) [t] := Rds.row (IsR_row EncN.eT (Is_rowK rfl (Is_kidsT2.2 rfl)))
theorem Rds.int (a : Int) : Rds 1 eI 0 1 (rowsCell [[i64 a]]) [a] := Rds.row (ints_row a)
set_option maxHeartbeats 8000000 in
theorem g_l6Put (a : Atm) (v : ByteArray) (ks : List Tm) (n : Int) (h1 : SmA a) (h2 : SmT (.mk v ks)) (h3 : a.2.2.2.1.length ≤ 100) (h4 : a.2.2.2.2.1.length = a.2.2.2.1.length) : GoalW Tryz.prog [K_lText] (A_l6Put a v ks n) K_l6Put.1 K_l6Put.2 (a, (v, ks), n) := GoalW.of (vc_l6Put a v ks n) (by
  simp (maxSteps := 2000000) [-List.getD_eq_getElem?_getD, -List.mem_cons, -Bool.forall_bool, -Bool.exists_bool, and_assoc, peta, tl_inj, ex_1, ex_2, ex_3, ex_4, ex_5, ex_6, ex_7, ex_8, ex_9, ey_2, ey_3, ey_4, ey_5, ey_6, ey_7, ey_8, ey_9]
  refine ⟨⟨0, Nat.zero_le _, false, [], [], PutB.nil, rfl, rfl, rfl, rfl, rfl⟩, fun i d ms ts hi hp => ⟨fun hlt => ?_, fun hge => ?_⟩⟩
  · have ht := getD_mem dT hlt
    have c1 : costT (a.2.2.2.1.getD i dT) ≤ 1048576 := by
      have := costT_mem ht
      have h1' : costA a ≤ 1048576 := h1
      unfold costA at h1'; omega
    have p1 := hp.1
    have p2 := hp.2.1
    have hd1 : (if d = true then 1 else 0) ≤ 1 := by split <;> omega
    have w := wrap_succ hlt (by omega)
    have jt := (Rds.cel (d := dT) EncN.eT ms).join (Rds.tk (a.2.2.2.1.getD i dT))
    have ji := (Rds.cel (d := (0 : Int)) EncN.eI ts).join (Rds.int (a.2.2.2.2.1.getD i 0))
    refine ⟨hlt, c1, fun hd => ⟨h2, fun _ => ⟨by omega, by omega, h2, fun _ => ⟨hlt, by omega, by omega, by omega, i + 1, hlt, true, ms ++ [.mk v ks] ++ [a.2.2.2.1.getD i dT], ts ++ [n] ++ [a.2.2.2.2.1.getD i 0], ?_, by omega, rfl, w, by simp, by simp, ?_, ?_⟩, fun _ => ⟨i + 1, hlt, true, ms ++ [.mk v ks], ts ++ [n], ?_, by omega, rfl, w, by simp, by simp, ?_, ?_⟩⟩,
      fun _ => ⟨h2, fun _ => ⟨hlt, by omega, by omega, by omega, i + 1, hlt, d, ms ++ [a.2.2.2.1.getD i dT], ts ++ [a.2.2.2.2.1.getD i 0], ?_, by omega, rfl, w, by simp, by simp, jt.iso, ji.iso⟩, fun _ => ⟨i + 1, hlt, d, ms, ts, hp.mono (by omega), by omega, rfl, w, rfl, rfl, .inr rfl, .inr rfl⟩⟩⟩,
      fun hd => ⟨h2, fun _ => ⟨hlt, by omega, by omega, by omega, i + 1, hlt, d, ms ++ [a.2.2.2.1.getD i dT], ts ++ [a.2.2.2.2.1.getD i 0], ?_, by omega, rfl, w, by simp, by simp, jt.iso, ji.iso⟩, fun _ => ⟨i + 1, hlt, d, ms, ts, hp.mono (by omega), by omega, rfl, w, rfl, rfl, .inr rfl, .inr rfl⟩⟩⟩
    · subst hd; exact (hp.push (n' := i + 1) (.inr rfl) (by simp)).push (.inl ht) (by simp)
    · exact (((Rds.cel (d := dT) EncN.eT ms).join (Rds.tm v ks)).join (Rds.tk _)).iso
    · exact (((Rds.cel (d := (0 : Int)) EncN.eI ts).join (Rds.int n)).join (Rds.int _)).iso
    · subst hd; exact hp.push (.inr rfl) (by simp)
    · exact ((Rds.cel (d := dT) EncN.eT ms).join (Rds.tm v ks)).iso
    · exact ((Rds.cel (d := (0 : Int)) EncN.eI ts).join (Rds.int n)).iso
    · exact hp.push (.inl ht) (by omega)
    · exact hp.push (.inl ht) (by omega)
  · have p1 := hp.1
    have p2 := hp.2.1
    have hd1 : (if d = true then 1 else 0) ≤ 1 := by split <;> omega
    refine ⟨fun hd => ⟨by omega, by omega, ms ++ [Tree.mk v ks], ts ++ [n], ?_, rfl, by simp, by simp, ((Rds.cel (d := dT) EncN.eT ms).join (Rds.tm v ks)).iso, ((Rds.cel (d := (0 : Int)) EncN.eI ts).join (Rds.int n)).iso⟩, fun hd => ⟨ms, ts, hp.mono (by omega), rfl, rfl, rfl, .inr rfl, .inr rfl⟩⟩
    subst hd
    exact hp.push (.inr rfl) (by simp; omega))
theorem k_l6Put : SoundC Tryz.prog K_l6Put.1 K_l6Put.2 := sound_ofW hm (CtxOK.nil.and k_lText) (fun ((a, (v, ks), n) : Atm × TP × Int) => A_l6Put a v ks n) (by kernel_rfl) fun ((a, (v, ks), n) : Atm × TP × Int) hb => g_l6Put a v ks n hb.1 hb.2.1 hb.2.2.1 hb.2.2.2
theorem sl0 {c : Nat → Nat → AV} {m : List Tm} : Is (.sl 0 2 c) (terms m) ↔ m = [] := by
  unfold terms
  rw [Is]
  constructor
  · intro h; exact List.eq_nil_of_length_eq_zero h.1.symm
  · rintro rfl; exact ⟨rfl, .inl rfl⟩
theorem noc : costT (.mk ByteArray.empty []) ≤ 1500 := by
  rw [costT_eq]
  decide
theorem CB_le2 {d : Nat} (h : d ≤ 2) : CB d ≤ 84 := by
  have : d = 0 ∨ d = 1 ∨ d = 2 := by omega
  rcases this with rfl | rfl | rfl <;> decide
set_option maxHeartbeats 8000000 in
theorem g_l6Any (b : List Int) (p : Int) (s : Pl.Sig) (h1 : Rd 68719476736 b p) (h2 : SgB 5 2 s) : GoalW Tryz.prog [K_pick, K_num, K_lAny, K_l6Put] (A_l6Any b p s) K_l6Any.1 K_l6Any.2 (b, p, s) := GoalW.of (vc_l6Any b p s) (by
  simp (maxSteps := 2000000) [-List.getD_eq_getElem?_getD, -List.mem_cons, -Bool.forall_bool, -Bool.exists_bool, and_assoc, peta, tl_inj, ex_1, ex_2, ex_3, ex_4, ex_5, ex_6, ex_7, ex_8, ex_9, ey_2, ey_3, ey_4, ey_5, ey_6, ey_7, ey_8, ey_9]
  have g3 := h1.2.2.1
  have g4 := h1.2.2.2
  refine ⟨h1.to (by omega) (by omega), fun y _ _ => ⟨fun _ => ⟨h1.to (by omega) (by omega), fun so _ _ => ⟨h1.to (by omega) (by omega), fun d hd => ?_⟩⟩, fun _ => ⟨h1.to (by omega) (by omega), fun bd _ => ⟨h1.to (by omega) (by omega), fun sc _ _ => ⟨h1.to (by omega) (by omega), fun k hk => ?_⟩⟩⟩⟩⟩
  · have hC : CB d.toNat ≤ 84 ∧ d ≤ 4 := by
      simp at hd
      exact ⟨CB_le2 (by omega), by omega⟩
    refine ⟨h1.to (by omega) (by omega), by omega, h2, hC.2, fun v ks q ht q1 q2 => ⟨h1.to (by omega) (by omega), fun d' hd' => ?_⟩⟩
    have hC' : CB d'.toNat ≤ 84 ∧ d' ≤ 4 := by
      simp at hd'
      exact ⟨CB_le2 (by omega), by omega⟩
    refine ⟨h1.to (by omega) (by omega), by omega, h2, hC'.2, fun v' ks' q' ht' q3 q4 => ?_⟩
    have t1 : costT (.mk v ks) ≤ CB d.toNat := ht
    have t2 : costT (.mk v' ks') ≤ CB d'.toNat := ht'
    exact ⟨1, v, ks, v', ks', [], [], 0, false, ⟨by show costT (.mk v ks) ≤ 1500; omega, by show costT (.mk v' ks') ≤ 1500; omega, Nat.zero_le _, Nat.zero_le _, fun t ht => by cases ht⟩, q', by omega, by omega, rfl, rfl, rfl, rfl, rfl, rfl, rfl, rfl, rfl, rfl, rfl, rfl⟩
  · simp at hk
    refine ⟨⟨k, by omega, by omega, [], by simp; omega, [], rfl, fun t ht => (by cases ht), by omega, by omega, rfl, rfl, rfl, rfl, rfl, rfl⟩, fun k ms ts bd sc q k0 k3 hm ht hc q1 q2 => ⟨fun hk => ⟨h1.to (by omega) (by omega), fun d hd => ?_⟩, fun hk => ?_⟩⟩
    · have hC : CB d.toNat ≤ 84 ∧ d ≤ 4 := by
        simp at hd
        exact ⟨CB_le2 (by omega), by omega⟩
      refine ⟨h1.to (by omega) (by omega), by omega, h2, hC.2, fun v ks q' hv q3 q4 => ⟨h1.to (by omega) (by omega), fun c _ => ?_⟩⟩
      have hv' : costT (.mk v ks) ≤ CB d.toNat := hv
      have hs : costA (2, (ByteArray.empty, []), (ByteArray.empty, []), ms, ts, bd, sc) ≤ 1048576 := at_sm (n := 3) ⟨noc, noc, by dsimp only; omega, by dsimp only; omega, hc⟩
      refine ⟨2, ByteArray.empty, [], ByteArray.empty, [], ms, ts, bd, sc, hs, v, ks, by omega, by omega, ht, rfl, rfl, sl0.2 rfl, rfl, sl0.2 rfl, rfl, rfl, rfl, rfl, rfl, rfl, fun ms' ts' hp => ⟨k - 1, by omega, by omega, ms', by have := hp.1; omega, ts', hp.2.1, fun t ht => ?_, by omega, by omega, by omega, wrap_small (by omega) (by omega), rfl, rfl, sl0.2 rfl, rfl, sl0.2 rfl, rfl, rfl, .inr rfl, .inr rfl⟩⟩
      rcases hp.2.2 t ht with e | e
      · exact hc t e
      · rw [e]; omega
    · exact ⟨2, ByteArray.empty, [], ByteArray.empty, [], ms, ts, bd, sc, ⟨noc, noc, by dsimp only; omega, by dsimp only; omega, hc⟩, q, by omega, by omega, rfl, rfl, sl0.2 rfl, rfl, sl0.2 rfl, rfl, rfl, rfl, rfl, rfl, .inr rfl, .inr rfl⟩)
theorem k_l6Any : SoundC Tryz.prog K_l6Any.1 K_l6Any.2 := sound_ofW hm ((((CtxOK.nil.and k_l6Put).and k_lAny).and k_num).and k_pick) (fun ((b, p, s) : BX) => A_l6Any b p s) (by kernel_rfl) fun ((b, p, s) : BX) hb => g_l6Any b p s hb.1 hb.2
set_option maxHeartbeats 8000000 in
theorem g_l6Some (b : List Int) (p : Int) (s : Pl.Sig) (h1 : Rd 34359738368 b p) (h2 : SgB 5 2 s) : GoalW Tryz.prog [K_l6Any, K_pick, K_num, K_l4Some, K_lAny] ([]) K_l6Some.1 K_l6Some.2 (b, p, s) := GoalW.of (vc_l6Some b p s) (by
  simp (maxSteps := 2000000) [-List.getD_eq_getElem?_getD, -List.mem_cons, -Bool.forall_bool, -Bool.exists_bool, and_assoc, peta, tl_inj, ex_1, ex_2, ex_3, ex_4, ex_5, ex_6, ex_7, ex_8, ex_9, ey_2, ey_3, ey_4, ey_5, ey_6, ey_7, ey_8, ey_9]
  have g3 := h1.2.2.1
  have g4 := h1.2.2.2
  refine ⟨h1.to (by omega) (by omega), h2, fun kd av ak bv bk ms ts bd sc q ha q1 q2 => ⟨h1.to (by omega) (by omega), fun y _ _ => ⟨fun _ => ⟨h1.to (by omega) (by omega), fun z hz => ?_⟩, fun _ => ⟨fun _ => ⟨h1.to (by omega) (by omega), fun z hz => ?_⟩, fun _ => ⟨fun _ => ⟨h1.to (by omega) (by omega), h2, fun v ks q' hv q3 q4 => ?_⟩, fun _ => ⟨fun _ => ⟨fun hl => ⟨h1.to (by omega) (by omega), fun z hz => ⟨hl, ?_⟩⟩, fun hn => ?_⟩, fun _ => ⟨fun _ => ⟨h1.to (by omega) (by omega), by have := @CB_le2 1 (by decide); omega, h2, fun v ks q' hv q3 q4 => ⟨?_, ?_⟩⟩, fun _ => ?_⟩⟩⟩⟩⟩⟩⟩
  all_goals obtain ⟨t1, t2, t3, t4, t5⟩ := id ha
  · exact ⟨z, av, ak, bv, bk, ms, ts, bd, sc, ⟨t1, t2, Nat.le_succ_of_le t3, Nat.le_succ_of_le t4, t5⟩, _, by omega, by omega, rfl, rfl, rfl, rfl, rfl, rfl, rfl, rfl, rfl, rfl⟩
  · exact ⟨kd, av, ak, bv, bk, ms, ts, z, sc, ⟨t1, t2, Nat.le_succ_of_le t3, Nat.le_succ_of_le t4, t5⟩, _, by omega, by omega, rfl, rfl, rfl, rfl, rfl, rfl, rfl, rfl, rfl, rfl⟩
  · exact ⟨kd, v, ks, bv, bk, ms, ts, bd, sc, ⟨hv, t2, Nat.le_succ_of_le t3, Nat.le_succ_of_le t4, t5⟩, _, by omega, by omega, rfl, rfl, rfl, rfl, rfl, rfl, rfl, rfl, rfl, rfl⟩
  · exact ⟨kd, av, ak, bv, bk, ms, ts.set 0 z, bd, sc, ⟨t1, t2, Nat.le_succ_of_le t3, by dsimp only; rw [List.length_set]; exact Nat.le_succ_of_le t4, t5⟩, _, by omega, by omega, rfl, rfl, rfl, rfl, rfl, rfl, Is_sl_of (by simp) (IsR_storeG (IsR_cel EncN.eI) rfl fun j hj => by
      match j, hj with
      | 0, _ => exact Is_i64.2 rfl), rfl, rfl, rfl⟩
  · exact ⟨kd, av, ak, bv, bk, ms, ts, bd, sc, ha.mono (by decide), _, by omega, by omega, rfl, rfl, rfl, rfl, rfl, rfl, rfl, rfl, rfl, rfl⟩
  · dsimp only at t3; omega
  · have hC := @CB_le2 1 (by decide)
    have hv' : costT (.mk v ks) ≤ CB 1 := hv
    exact ⟨kd, av, ak, bv, bk, ms ++ [Tree.mk v ks], ts, bd, sc, ⟨t1, t2, by dsimp only at t3 ⊢; simp; omega, Nat.le_succ_of_le t4, mem_push_imp t5 (by omega)⟩, _, by omega, by omega, rfl, rfl, rfl, rfl, rfl, ((Rds.cel (d := dT) EncN.eT ms).join (Rds.tm v ks)).is, rfl, rfl, rfl, rfl⟩
  · exact ⟨kd, av, ak, bv, bk, ms, ts, bd, sc, ha.mono (by decide), _, by omega, by omega, rfl, rfl, rfl, rfl, rfl, rfl, rfl, rfl, rfl, rfl⟩)
theorem k_l6Some : SoundC Tryz.prog K_l6Some.1 K_l6Some.2 := sound_ofW hm (((((CtxOK.nil.and k_lAny).and k_l4Some).and k_num).and k_pick).and k_l6Any) (fun _ => []) (by kernel_rfl) fun ((b, p, s) : BX) hb => g_l6Some b p s hb.1 hb.2
end Cg

/-
  Plain laws of literals in models: strict and weak bounds, equality turned round, the model of no rows, parts of sums. No condition.
-/
set_option linter.unusedVariables false
set_option linter.unusedSimpArgs false
namespace Pl
open Go Cg
theorem ml_parts {s : Sig} {m : Mdl} {x : Atm} {no : Bool} (h : (modelLit s m (x, no)).2 = true) : modelOk s m = true ∧ atomOk s x = true ∧ (atomV m x).2 = true ∧ (modelLit s m (x, no)).1 = ((atomV m x).1 != no) := by
  cases h1 : modelOk s m with
  | false => rw [ml_no (.inl h1)] at h; cases h
  | true =>
    cases h2 : atomOk s x with
    | false => rw [ml_no (.inr h2)] at h; cases h
    | true =>
      rw [ml_yes h1 h2] at h ⊢
      split at h
      · rename_i h3
        rw [if_pos h3]
        exact ⟨rfl, rfl, h3, rfl⟩
      · cases h
theorem eqSorted_comm (s : Sig) (a b : Tm) : eqSorted s a b = eqSorted s b a := by
  unfold eqSorted
  rw [Bool.and_comm (termSort s a).2, show decide ((termSort s a).1 = (termSort s b).1) = decide ((termSort s b).1 = (termSort s a).1) by rw [Bool.eq_iff_iff]; simp [eq_comm]]
theorem eq_parts {s : Sig} {a b : TP} {ns : List Tm} {ts : List Int} {w : Int} {c : Bool} (h : atomOk s (1, a, b, ns, ts, w, c) = true) : sigOk s = true ∧ right (.mk a.1 a.2) = true ∧ right (.mk b.1 b.2) = true ∧ ns = [] ∧ ts = [] ∧ w = 0 ∧ c = false ∧ eqSorted s (.mk a.1 a.2) (.mk b.1 b.2) = true := by
  simp only [atomOk, atomRight, eqRight, Bool.and_eq_true, if_neg (show ¬ (1 : Int) = 2 by decide), decide_eq_true_eq, Bool.not_eq_true', ↓reduceIte] at h
  grind
theorem eq_ok {s : Sig} {a b : TP} (h1 : sigOk s = true) (h2 : right (.mk a.1 a.2) = true) (h3 : right (.mk b.1 b.2) = true) (h4 : eqSorted s (.mk a.1 a.2) (.mk b.1 b.2) = true) : atomOk s (1, a, b, [], [], 0, false) = true := by
  simp only [atomOk, atomRight, eqRight, Bool.and_eq_true, if_neg (show ¬ (1 : Int) = 2 by decide), decide_eq_true_eq, Bool.not_eq_true', ↓reduceIte]
  exact ⟨⟨h1, trivial, ⟨⟨⟨⟨h2, h3⟩, trivial⟩, trivial⟩, trivial⟩, trivial⟩, h4⟩
/-- That two things are one, turned round. -/
theorem ml_turn {s : Sig} {m : Mdl} {a b : TP} {ns : List Tm} {ts : List Int} {w : Int} {c no : Bool} (h : (modelLit s m ((1, a, b, ns, ts, w, c), no)).2 = true) :
    modelLit s m ((1, b, a, [], [], 0, false), no) = ((modelLit s m ((1, a, b, ns, ts, w, c), no)).1, true) := by
  obtain ⟨h1, h2, h3, h4⟩ := ml_parts h
  obtain ⟨g1, g2, g3, -, -, -, -, g4⟩ := eq_parts h2
  rw [ml_yes h1 (eq_ok g1 g3 g2 (by rw [eqSorted_comm]; exact g4)), if_pos (by unfold atomV; rw [if_pos rfl]), h4]
  have e : ∀ (p q : Rt), decide (p = q) = decide (q = p) := fun p q => by rw [Bool.eq_iff_iff]; simp [eq_comm]
  unfold atomV
  rw [if_pos rfl, if_pos rfl, e]
end Pl

/-
  The codes' contracts: drawn literals, and laws of literals in models. No condition.
-/
set_option linter.unusedVariables false
set_option linter.unusedSimpArgs false
set_option maxRecDepth 100000
namespace Cg
open Go Go.Proofs Pl
theorem _root_.Pl.LsB.push {n n' : Nat} {l : List Ltr} {x : Ltr} (h : LsB n l) (hx : AtB 4 x.1) (hn : n + 1 ≤ n') : LsB n' (l ++ [x]) := ⟨by have := h.1; simp; omega, mem_push_imp h.2 hx⟩
set_option maxHeartbeats 8000000 in
theorem g_DrawModelLit (b : List Int) (h1 : Sz b) (h2 : Byt b) : GoalW Tryz.prog [K_l16Open, K_l4Sig, K_l7Some, K_l6Some, K_pick] ([]) K_DrawModelLit.1 K_DrawModelLit.2 (b) := GoalW.of (vc_DrawModelLit b) (by
  simp (maxSteps := 2000000) [-List.getD_eq_getElem?_getD, -List.mem_cons, -Bool.forall_bool, -Bool.exists_bool, and_assoc, peta, tl_inj, ex_1, ex_2, ex_3, ex_4, ex_5, ex_6, ex_7, ex_8, ex_9, ey_2, ey_3, ey_4, ey_5, ey_6, ey_7, ey_8, ey_9]
  exact ⟨by omega, h2, fun y hr => ⟨hr.to (by omega) (by omega), fun s hs => ⟨hr.to (by omega) (by omega), hs, fun m q hm q1 q2 => ⟨hr.to (by omega) (by omega), hs, fun kd av ak bv bk ms ts bd sc q' ha q3 q4 => ⟨hr.to (by omega) (by omega), fun z _ _ => ⟨s, hs, m, hm, kd, av, ak, bv, bk, ms, ts, bd, sc, ha, rfl, rfl, rfl, rfl, rfl, rfl, rfl, rfl, rfl, rfl, rfl⟩⟩⟩⟩⟩⟩)
theorem k_DrawModelLit : SoundC Tryz.prog K_DrawModelLit.1 K_DrawModelLit.2 := sound_ofW hm (((((CtxOK.nil.and k_pick).and k_l6Some).and k_l7Some).and k_l4Sig).and k_l16Open) (fun (b : List Int) => []) (by kernel_rfl) fun (b : List Int) hb => g_DrawModelLit b hb.1 hb.2
set_option maxHeartbeats 8000000 in
theorem g_yModelTurn (b : List Int) (hb : Byt b) : GoalW Tryz.prog [K_DrawModelLit, K_iModelLit, K_sModelLit] ([]) K_yModelTurn.1 K_yModelTurn.2 (b) := GoalW.of (vc_yModelTurn b) (by
  simp (maxSteps := 2000000) [-List.getD_eq_getElem?_getD, -List.mem_cons, -Bool.forall_bool, -Bool.exists_bool, and_assoc, peta, tl_inj, ex_1, ex_2, ex_3, ex_4, ex_5, ex_6, ex_7, ex_8, ex_9, ey_2, ey_3, ey_4, ey_5, ey_6, ey_7, ey_8, ey_9]
  refine fun l1 => ⟨by omega, hb, fun s m kd av ak bv bk ms ts bd sc no hs hm ha => ?_⟩
  have e1 := sg_sm hs
  have e2 := md_sm hm
  have e3 := at_sm ha
  refine ⟨e1, e2, e3, e1, e2, e3, fun hok hk => ?_⟩
  subst hk
  have e4 : costA (1, (bv, bk), (av, ak), [], [], 0, false) ≤ 1048576 := at_sm (n := 0) ⟨ha.2.1, ha.1, Nat.le_refl _, Nat.le_refl _, fun t ht => by cases ht⟩
  rw [ml_turn hok]
  exact ⟨e1, e2, e4, fun _ => rfl, rfl⟩)
theorem k_yModelTurn : SoundC Tryz.prog K_yModelTurn.1 K_yModelTurn.2 := sound_ofW hm (((CtxOK.nil.and k_sModelLit).and k_iModelLit).and k_DrawModelLit) (fun (b : List Int) => []) (by kernel_rfl) fun (b : List Int) hb => g_yModelTurn b hb
end Cg
