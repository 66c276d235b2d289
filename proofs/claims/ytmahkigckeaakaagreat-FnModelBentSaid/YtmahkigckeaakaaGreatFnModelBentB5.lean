/-
  What the law leans on, part 5. No condition.
-/
import Derived.Test.YtmahkigckeaakaaGreatProg
import Derived.Test.YtmahkigckeaakaaGreatFnModelBentB1
import Derived.Test.YtmahkigckeaakaaGreatFnModelBentB2
import Derived.Test.YtmahkigckeaakaaGreatFnModelBentB3
import Derived.Test.YtmahkigckeaakaaGreatFnModelBentB4
/-
  The codes' contracts: drawn words and models. No condition.
-/
set_option linter.unusedVariables false
set_option linter.unusedSimpArgs false
set_option maxRecDepth 100000
namespace Cg
open Go Go.Proofs Pl
theorem slit (v : ByteArray) (j : Nat) (hj : j < 1) : [st v].getD j .any = eS v j := by
  have : j = 0 := by omega
  subst this
  rfl
@[simp] theorem strs_lit3 {a b c : ByteArray} {m : List ByteArray} : Is (.lit 3 1 (rowsCell [[st a], [st b], [st c]])) (strs m) ↔ [a, b, c] = m := Is_lits (by decide) EncN.eS [a, b, c] m (fun v => [st v]) slit
@[simp] theorem strs_lit5 {a b c d e : ByteArray} {m : List ByteArray} : Is (.lit 5 1 (rowsCell [[st a], [st b], [st c], [st d], [st e]])) (strs m) ↔ [a, b, c, d, e] = m := Is_lits (by decide) EncN.eS [a, b, c, d, e] m (fun v => [st v]) slit
@[simp] theorem strs_lit4 {a b c d : ByteArray} {m : List ByteArray} : Is (.lit 4 1 (rowsCell [[st a], [st b], [st c], [st d]])) (strs m) ↔ [a, b, c, d] = m := Is_lits (by decide) EncN.eS [a, b, c, d] m (fun v => [st v]) slit
theorem k_of : SoundC Tryz.prog K_of.1 K_of.2 := sound_of hm (CtxOK.nil.and k_pick) (fun _ => []) (by kernel_rfl) fun ((b, p, l) : List Int × Int × List ByteArray) hb => (by
  obtain ⟨h1, h2, h3⟩ : Rd 1099511627776 b p ∧ l ≠ [] ∧ Sz l := hb
  rw [← vc_of b p l]
  simp [-List.getD_eq_getElem?_getD, -List.mem_cons, -Bool.forall_bool, -Bool.exists_bool, and_assoc, peta, tl_inj, ex_1, ex_2, ex_3, ex_4, ex_5, ex_6, ex_7, ex_8, ex_9, ey_2, ey_3, ey_4, ey_5, ey_6, ey_7, ey_8, ey_9]
  have h0 : 0 < l.length := List.length_pos_iff.2 h2
  refine ⟨h1, fun y hy _ => ?_⟩
  obtain ⟨h4, h5⟩ := hy (by omega)
  exact ⟨h4, h5, by omega, getD_mem _ (by omega)⟩)
theorem k_rat : SoundC Tryz.prog K_rat.1 K_rat.2 := sound_of hm (CtxOK.nil.and k_num) (fun _ => []) (by kernel_rfl) fun ((b, p) : List Int × Int) hb => (by
  replace hb : Rd 549755813888 b p := hb
  rw [← vc_rat b p]
  simp [-List.getD_eq_getElem?_getD, -List.mem_cons, -Bool.forall_bool, -Bool.exists_bool, and_assoc, peta, tl_inj, ex_1, ex_2, ex_3, ex_4, ex_5, ex_6, ex_7, ex_8, ex_9, ey_2, ey_3, ey_4, ey_5, ey_6, ey_7, ey_8, ey_9]
  have g3 := hb.2.2.1
  have g4 := hb.2.2.2
  exact ⟨hb.to (by omega) (by omega), fun y _ => ⟨hb.to (by omega) (by omega), fun z _ => by omega⟩⟩)
theorem k_RatOfP : SoundC Tryz.prog K_RatOfP.1 K_RatOfP.2 := sound_of hm ((CtxOK.nil.and k_l1Least).and k_l1Abs) (fun _ => []) (by kernel_rfl) fun ((n, d) : Int × Int) hb => (by
  obtain ⟨h1, h2, h3⟩ : n.natAbs ≤ 1000000000 ∧ 1 ≤ d ∧ d ≤ 1000000000 := hb
  rw [← vc_RatOfP n d]
  simp [-List.getD_eq_getElem?_getD, -List.mem_cons, -Bool.forall_bool, -Bool.exists_bool, and_assoc, peta, tl_inj, ex_1, ex_2, ex_3, ex_4, ex_5, ex_6, ex_7, ex_8, ex_9, ey_2, ey_3, ey_4, ey_5, ey_6, ey_7, ey_8, ey_9]
  have e1 : abs1 n ≤ 1000000000 := by unfold abs1; split <;> (try split) <;> omega
  have e2 : abs1 d ≤ 1000000000 := by unfold abs1; split <;> (try split) <;> omega
  exact ⟨fun h => absurd h (by omega), fun _ => ⟨fun h => absurd h (by omega), fun _ => ⟨fun h => absurd h (by omega), fun _ => ⟨fun h => absurd h (by omega), fun _ => ⟨by omega, h2, by omega⟩⟩⟩⟩⟩)
theorem k_l7Value : SoundC Tryz.prog K_l7Value.1 K_l7Value.2 := sound_of hm (((CtxOK.nil.and k_RatOfP).and k_num).and k_pick) (fun _ => []) (by kernel_rfl) fun ((b, p, s) : List Int × Int × Int) hb => (by
  replace hb : Rd 549755813888 b p := hb
  rw [← vc_l7Value b p s]
  simp [-List.getD_eq_getElem?_getD, -List.mem_cons, -Bool.forall_bool, -Bool.exists_bool, and_assoc, peta, tl_inj, ex_1, ex_2, ex_3, ex_4, ex_5, ex_6, ex_7, ex_8, ex_9, ey_2, ey_3, ey_4, ey_5, ey_6, ey_7, ey_8, ey_9]
  have g3 := hb.2.2.1
  have g4 := hb.2.2.2
  refine ⟨fun _ => ⟨hb.to (by omega) (by omega), fun _ _ _ => by omega⟩, fun _ => ⟨hb.to (by omega) (by omega), fun y hy => ⟨hb.to (by omega) (by omega), fun z hz => ?_⟩⟩⟩
  simp at hy hz
  exact ⟨by omega, by omega, by omega, fun _ => ⟨by omega, by omega⟩, fun _ => ⟨by omega, by omega⟩⟩)
/-- Rows that were written out, one by one. -/
def LitR {α : Type} (k : Nat) (e : α → Nat → AV) (d : α) (rows : List (List AV)) (l : List α) : Prop := rows.length = l.length ∧ ∀ i, i < l.length → ∀ j, j < k → Is ((rows.getD i []).getD j .any) (e (l.getD i d) j)
theorem LitR.nil {α : Type} {k : Nat} {e : α → Nat → AV} {d : α} : LitR k e d [] [] := ⟨rfl, fun i hi => by cases hi⟩
theorem LitR.cons {α : Type} {k : Nat} {e : α → Nat → AV} {d : α} {rows : List (List AV)} {l : List α} (h : LitR k e d rows l) {r : List AV} {v : α} (hr : ∀ j, j < k → Is (r.getD j .any) (e v j)) : LitR k e d (r :: rows) (v :: l) :=
  ⟨by simp [h.1], fun i hi j hj => by
    cases i with
    | zero => exact hr j hj
    | succ i => exact h.2 i (by simpa using hi) j hj⟩
theorem LitR.is {α : Type} {k : Nat} {e : α → Nat → AV} {d : α} {rows : List (List AV)} {l : List α} (h : LitR k e d rows l) : Is (.lit rows.length k (rowsCell rows)) (.sl l.length k fun i j => e (l.getD i d) j) :=
  Is_lit_of h.1 fun i hi j hj => h.2 i hi j hj
theorem rowY {a : ByteArray} {b : AV} {l : List Int} {c : Int} (hb : Is b (ints l)) : ∀ j, j < 3 → Is ([st a, b, i64 c].getD j .any) (eY (a, l, c) j) := Is_rowY hb
theorem ints_l0 {q : Nat} {c : Nat → Nat → AV} : Is (.lit 0 q c) (ints []) := ints_nil.2 rfl
theorem ints_l1 {a : Int} : Is (.lit 1 1 (rowsCell [[i64 a]])) (ints [a]) := ints_lit1.2 rfl
theorem ints_l2 {a b : Int} : Is (.lit 2 1 (rowsCell [[i64 a], [i64 b]])) (ints [a, b]) := ints_lit2.2 rfl
theorem base_small (k : Int) : SgB 5 2 (base k) := by
  unfold base
  split
  · exact ⟨by decide, by simp; decide⟩
  · split
    · exact ⟨by decide, by simp; decide⟩
    · split
      · exact ⟨by decide, by simp; decide⟩
      · split
        · exact ⟨by decide, by simp; decide⟩
        · exact ⟨by decide, by simp⟩
theorem k_l4Base : SoundC Tryz.prog K_l4Base.1 K_l4Base.2 := sound_of hm CtxOK.nil (fun _ => []) (by kernel_rfl) fun (k : Int) hb => (by
  rw [← vc_l4Base k]
  simp [-List.getD_eq_getElem?_getD, -List.mem_cons, -Bool.forall_bool, -Bool.exists_bool, and_assoc, peta, tl_inj, ex_1, ex_2, ex_3, ex_4, ex_5, ex_6, ex_7, ex_8, ex_9, ey_2, ey_3, ey_4, ey_5, ey_6, ey_7, ey_8, ey_9]
  refine ⟨fun h => ?_, fun h0 => ⟨fun h => ?_, fun h1 => ⟨fun h => ?_, fun h2 => ⟨fun h => ?_, fun h3 => ?_⟩⟩⟩⟩
  · unfold base; rw [if_pos h]
    exact (((((LitR.nil.cons (rowY ints_l2)).cons (rowY ints_l1)).cons (rowY ints_l0)).cons (rowY ints_l0)).cons (rowY ints_l0)).is
  · unfold base; rw [if_neg h0, if_pos h]
    exact (((((LitR.nil.cons (rowY ints_l0)).cons (rowY ints_l0)).cons (rowY ints_l1)).cons (rowY ints_l0)).cons (rowY ints_l0)).is
  · unfold base; rw [if_neg h0, if_neg h1, if_pos h]
    exact ((((LitR.nil.cons (rowY ints_l0)).cons (rowY ints_l0)).cons (rowY ints_l0)).cons (rowY ints_l1)).is
  · unfold base; rw [if_neg h0, if_neg h1, if_neg h2, if_pos h]
    exact (((((LitR.nil.cons (rowY ints_l0)).cons (rowY ints_l0)).cons (rowY ints_l2)).cons (rowY ints_l1)).cons (rowY ints_l0)).is
  · unfold base; rw [if_neg h0, if_neg h1, if_neg h2, if_neg h3])
theorem k_l4Sig : SoundC Tryz.prog K_l4Sig.1 K_l4Sig.2 := sound_of hm ((CtxOK.nil.and k_l4Base).and k_num) (fun _ => []) (by kernel_rfl) fun ((b, p) : List Int × Int) hb => (by
  replace hb : Rd 549755813888 b p := hb
  rw [← vc_l4Sig b p]
  simp [-List.getD_eq_getElem?_getD, -List.mem_cons, -Bool.forall_bool, -Bool.exists_bool, and_assoc, peta, tl_inj, ex_1, ex_2, ex_3, ex_4, ex_5, ex_6, ex_7, ex_8, ex_9, ey_2, ey_3, ey_4, ey_5, ey_6, ey_7, ey_8, ey_9]
  exact ⟨hb.to hb.2.2.1 (by have := hb.2.2.2; omega), fun y _ => base_small y⟩)
theorem IsR_store {α : Type} {k : Nat} {e : α → Nat → AV} {d : α} (he : EncN k e) {l : List α} {i0 off : Nat} {v : α} {vs : List AV}
    (h : ∀ j, j < k → Is (bif Nat.ble off j && Nat.blt j (off + vs.length) then vs.getD (j - off) .any else e (l.getD i0 d) j) (e v j)) : IsR k e d (storeC (fun i j => e (l.getD i d) j) i0 off vs) (l.set i0 v) := fun i hi j hj => by
  have hi' : i < l.length := by simpa using hi
  unfold storeC
  by_cases hii : i = i0
  · subst hii
    have e1 : (l.set i v).getD i d = v := by simp [hi']
    rw [e1, beq_iff.2 rfl, Bool.true_and]
    exact h j hj
  · have e1 : (l.set i0 v).getD i d = l.getD i d := by simp only [List.getD_eq_getElem?_getD, List.getElem?_set_ne (Ne.symm hii)]
    have e2 : Nat.beq i i0 = false := by
      cases hb : Nat.beq i i0
      · rfl
      · exact absurd (beq_iff.1 hb) hii
    rw [e1, e2]
    exact he.self _ hj
theorem IsR_storeG {α : Type} {k : Nat} {e : α → Nat → AV} {d : α} {c : Nat → Nat → AV} {l : List α} (hc : IsR k e d c l) {i0 : Nat} {v : α} {vs : List AV} (hl : vs.length = k)
    (h : ∀ j, j < k → Is (vs.getD j .any) (e v j)) : IsR k e d (storeC c i0 0 vs) (l.set i0 v) := fun i hi j hj => by
  have hi' : i < l.length := by simpa using hi
  unfold storeC
  by_cases hii : i = i0
  · subst hii
    have e1 : (l.set i v).getD i d = v := by simp [hi']
    rw [e1, beq_iff.2 rfl, Bool.true_and, ble_iff.2 (Nat.zero_le j), blt_true (by omega), Bool.true_and, cond_true, Nat.sub_zero]
    exact h j hj
  · have e1 : (l.set i0 v).getD i d = l.getD i d := by simp only [List.getD_eq_getElem?_getD, List.getElem?_set_ne (Ne.symm hii)]
    have e2 : Nat.beq i i0 = false := by
      cases hb : Nat.beq i i0
      · rfl
      · exact absurd (beq_iff.1 hb) hii
    rw [e1, e2, Bool.false_and, Bool.false_and, cond_false]
    exact hc i hi' j hj
theorem IsX_v (x : Value) : IsX (.v x) (.v x) := rfl
theorem IsX_eR (x : Rw) (j : Nat) (hj : j < 4) : IsX (eR x j) (eR x j) := by
  match j, hj with
  | 0, _ => exact IsX_v _
  | 1, _ => exact ⟨rfl, rfl, fun i hi j hj => EncN.eQ.self _ hj⟩
  | 2, _ => exact IsX_v _
  | 3, _ => exact IsX_v _
@[simp] theorem xrR_self {l : List Rw} : IsO (xrR l) (xrR l) := ⟨rfl, rfl, fun i hi j hj => IsX_eR _ j hj⟩
theorem mem_set_imp {α : Type} {q : α → Prop} {l : List α} {i : Nat} {v : α} (h : ∀ x ∈ l, q x) (hv : q v) : ∀ x ∈ l.set i v, q x := fun x hx => by
  rcases List.mem_or_eq_of_mem_set hx with e | e
  · exact h x e
  · rw [e]; exact hv
theorem mem_push_imp {α : Type} {q : α → Prop} {l : List α} {v : α} (h : ∀ x ∈ l, q x) (hv : q v) : ∀ x ∈ l ++ [v], q x := fun x hx => by
  rcases List.mem_append.1 hx with e | e
  · exact h x e
  · rw [List.mem_singleton.1 e]; exact hv
theorem _root_.Pl.SgB.mono {n k n' k' : Nat} {s : Pl.Sig} (h : SgB n k s) (h1 : n ≤ n') (h2 : k ≤ k') : SgB n' k' s := ⟨Nat.le_trans h.1 h1, fun x hx => ⟨(h.2 x hx).1, Nat.le_trans (h.2 x hx).2 h2⟩⟩
theorem _root_.Pl.SgB.set {n k : Nat} {s : Pl.Sig} (h : SgB n k s) {i : Nat} {x : Sym} (hx : x.1.size ≤ 10 ∧ x.2.1.length ≤ k) : SgB n k (s.set i x) := ⟨by simpa using h.1, mem_set_imp h.2 hx⟩
theorem _root_.Pl.SgB.push {n k : Nat} {s : Pl.Sig} (h : SgB n k s) {x : Sym} (hn : s.length < n) (hx : x.1.size ≤ 10 ∧ x.2.1.length ≤ k) : SgB n k (s ++ [x]) := ⟨by simp; omega, mem_push_imp h.2 hx⟩
theorem _root_.Pl.MdB.mono {n k n' k' : Nat} {s : Mdl} (h : MdB n k s) (h1 : n ≤ n') (h2 : k ≤ k') : MdB n' k' s := ⟨Nat.le_trans h.1 h1, fun x hx => ⟨(h.2 x hx).1, Nat.le_trans (h.2 x hx).2 h2⟩⟩
theorem _root_.Pl.MdB.set {n k : Nat} {s : Mdl} (h : MdB n k s) {i : Nat} {x : Rw} (hx : x.1.size ≤ 10 ∧ x.2.1.length ≤ k) : MdB n k (s.set i x) := ⟨by simpa using h.1, mem_set_imp h.2 hx⟩
theorem _root_.Pl.MdB.push {n k : Nat} {s : Mdl} (h : MdB n k s) {x : Rw} (hn : s.length < n) (hx : x.1.size ≤ 10 ∧ x.2.1.length ≤ k) : MdB n k (s ++ [x]) := ⟨by simp; omega, mem_push_imp h.2 hx⟩
theorem names4 : ∀ y ∈ [(⟨#[]⟩ : ByteArray), ⟨#[65]⟩, ⟨#[122, 122]⟩], y.size ≤ 10 := by decide
theorem k_l7Some0 (k_l7Any : SoundC Tryz.prog K_l7Any.1 K_l7Any.2) : SoundC Tryz.prog K_l7Some.1 K_l7Some.2 := sound_of hm ((((CtxOK.nil.and k_of).and k_rat).and k_pick).and k_l7Any) (fun _ => []) (by kernel_rfl) fun ((b, p, s) : List Int × Int × Pl.Sig) hb => (by
  obtain ⟨h1, h2⟩ : Rd 68719476736 b p ∧ SgB 5 2 s := hb
  rw [← vc_l7Some b p s]
  simp [-List.getD_eq_getElem?_getD, -List.mem_cons, -Bool.forall_bool, -Bool.exists_bool, and_assoc, peta, tl_inj, ex_1, ex_2, ex_3, ex_4, ex_5, ex_6, ex_7, ex_8, ex_9, ey_2, ey_3, ey_4, ey_5, ey_6, ey_7, ey_8, ey_9]
  have g3 := h1.2.2.1
  have g4 := h1.2.2.2
  refine ⟨h1.to (by omega) (by omega), h2, fun m q hm q1 q2 => ?_⟩
  have hB : MdB 16 3 m := hm.mono (by decide) (by decide)
  obtain ⟨m1, m2⟩ : m.length ≤ 15 ∧ ∀ x ∈ m, x.1.size ≤ 10 ∧ x.2.1.length ≤ 2 := id hm
  refine ⟨fun _ => ⟨hB, by omega, by omega⟩, fun hne => ⟨h1.to (by omega) (by omega), fun y y1 y2 => ⟨fun _ => ⟨hB, by omega, by omega⟩, fun _ => ⟨h1.to (by omega) (by omega), fun k hk _ => ⟨h1.to (by omega) (by omega), fun z z1 z2 => ?_⟩⟩⟩⟩⟩
  have h0 : 0 < m.length := List.length_pos_iff.2 hne
  obtain ⟨k1, k2⟩ := hk (by omega)
  have hkl : k.toNat < m.length := by omega
  have h3 := m2 _ (getD_mem dR hkl)
  have h30 := m2 _ (getD_mem dR h0)
  have hsl : ∀ v : Rw, (m.set k.toNat v).length = m.length := fun v => by simp
  refine ⟨fun _ => ⟨h1.to (by omega) (by omega), fun v w => ?_⟩, fun _ => ⟨fun _ => ?_, fun _ => ⟨fun _ => ?_, fun _ => ⟨fun _ => ⟨h1.to (by omega) (by omega), fun nm hnm => ?_⟩, fun _ => ?_⟩⟩⟩⟩
  · exact ⟨by omega, by omega, by omega, _, hB.set (x := ((m.getD k.toNat dR).1, (m.getD k.toNat dR).2.1, v, w)) ⟨h3.1, Nat.le_trans h3.2 (by decide)⟩, by omega, by omega, Is_sl_of (hsl _).symm (IsR_store EncN.eR fun j hj => by
      match j, hj with
      | 0, _ => exact EncN.eR.self _ (j := 0) (by decide)
      | 1, _ => exact EncN.eR.self _ (j := 1) (by decide)
      | 2, _ => exact Is_i64.2 rfl
      | 3, _ => exact Is_i64.2 rfl)⟩
  · exact ⟨by omega, by omega, by omega, by omega, _, hB.push (x := m.getD k.toNat dR) (by omega) ⟨h3.1, by omega⟩, by omega, by omega, ((Rds.cel EncN.eR m).join (Rds.row (IsR_row EncN.eR (Is_rowR (Is_rats.2 rfl))))).is⟩
  · exact ⟨by omega, by omega, by omega, by omega, by omega, by omega, by omega, _, hB.set (x := ((m.getD k.toNat dR).1, (m.getD k.toNat dR).2.1 ++ [(0, 1)], (m.getD k.toNat dR).2.2)) ⟨h3.1, by dsimp only; rw [List.length_append, List.length_singleton]; omega⟩, by omega, by omega, Is_sl_of (hsl _).symm (IsR_store EncN.eR fun j hj => by
      match j, hj with
      | 0, _ => exact EncN.eR.self _ (j := 0) (by decide)
      | 1, _ => exact ((Rds.cel EncN.eQ (m.getD k.toNat dR).2.1).join (Rds.row (d := dQ) (v := ((0, 1) : Rt)) (r := [i64 0, i64 1]) (IsR_row EncN.eQ fun j hj => by
          match j, hj with
          | 0, _ => exact Is_i64.2 rfl
          | 1, _ => exact Is_i64.2 rfl))).is
      | 2, _ => exact EncN.eR.self _ (j := 2) (by decide)
      | 3, _ => exact EncN.eR.self _ (j := 3) (by decide))⟩
  · exact ⟨by omega, by omega, by omega, _, hB.set (x := (nm, (m.getD k.toNat dR).2)) ⟨names4 nm hnm, Nat.le_trans h3.2 (by decide)⟩, by omega, by omega, Is_sl_of (hsl _).symm (IsR_store EncN.eR fun j hj => by
      match j, hj with
      | 0, _ => exact Is_st.2 rfl
      | 1, _ => exact EncN.eR.self _ (j := 1) (by decide)
      | 2, _ => exact EncN.eR.self _ (j := 2) (by decide)
      | 3, _ => exact EncN.eR.self _ (j := 3) (by decide))⟩
  · refine ⟨by omega, by omega, by omega, by omega, by omega, by omega, by omega, by omega, (m.set k.toNat (m.getD 0 dR)).set 0 (m.getD k.toNat dR), (hB.set ⟨h30.1, by omega⟩).set ⟨h3.1, by omega⟩, by omega, by omega, ?_⟩
    exact Is_sl_of (by simp) (IsR_storeG (IsR_storeG (IsR_cel EncN.eR) rfl (Is_rowR (Is_rats.2 rfl))) rfl (Is_rowR (Is_rats.2 rfl))))
end Cg

/-
  Drawn models that stay as they are. No condition.
-/

/-
  What is left to show of each function's code, printed by a program: Mdf. No condition.
-/
set_option maxRecDepth 100000
set_option linter.unusedVariables false
namespace Cg
open Go Go.Proofs
end Cg

/-
  The codes' contracts: drawn models, the rest, and the law that models are compared exactly. No condition.
-/
set_option linter.unusedVariables false
set_option linter.unusedSimpArgs false
set_option maxRecDepth 100000
namespace Cg
open Go Go.Proofs Pl
theorem sg_sm {n k : Nat} {s : Pl.Sig} (h : SgB n k s) (hn : n ≤ 100 := by decide) (hk : k ≤ 100 := by decide) : costG s ≤ 1048576 := by
  have : sumN costY s ≤ s.length * 110 := sumN_le fun x hx => by have := h.2 x hx; unfold costY; omega
  have h1 := h.1
  have : s.length * 110 ≤ 100 * 110 := Nat.mul_le_mul_right _ (by omega)
  unfold costG; omega
theorem md_sm {n k : Nat} {m : Mdl} (h : MdB n k m) (hn : n ≤ 100 := by decide) (hk : k ≤ 100 := by decide) : costM m ≤ 1048576 := by
  have : sumN costR m ≤ m.length * 110 := sumN_le fun x hx => by have := h.2 x hx; unfold costR; omega
  have h1 := h.1
  have : m.length * 110 ≤ 100 * 110 := Nat.mul_le_mul_right _ (by omega)
  unfold costM; omega
theorem k_l7Any : SoundC Tryz.prog K_l7Any.1 K_l7Any.2 := sound_of hm (((CtxOK.nil.and k_l7PutX).and k_l7Value).and k_num) (fun (b, p, s) => A_l7Any b p s) (by kernel_rfl) fun ((b, p, s) : List Int × Int × Pl.Sig) hb => (by
  obtain ⟨h1, h2⟩ : Rd 137438953472 b p ∧ SgB 5 2 s := hb
  rw [← vc_l7Any b p s]
  simp [-List.getD_eq_getElem?_getD, -List.mem_cons, -Bool.forall_bool, -Bool.exists_bool, and_assoc, peta, tl_inj, ex_1, ex_2, ex_3, ex_4, ex_5, ex_6, ex_7, ex_8, ex_9, ey_2, ey_3, ey_4, ey_5, ey_6, ey_7, ey_8, ey_9]
  obtain ⟨s1, s2⟩ : s.length ≤ 5 ∧ ∀ x ∈ s, x.1.size ≤ 10 ∧ x.2.1.length ≤ 2 := id h2
  have g3 := h1.2.2.1
  have g4 := h1.2.2.2
  refine ⟨⟨0, by omega, [], ⟨Nat.zero_le _, fun x hx => by cases hx⟩, by omega, rfl, rfl, rfl⟩, fun i m q hi hm q1 q2 => ⟨fun hlt => ⟨h1.to (by omega) (by omega), fun y hy => ⟨?_, fun k m q hk1 hk2 hm q3 q4 => ⟨fun hk => ?_, fun hk => ?_⟩⟩⟩, fun hge => ?_⟩⟩
  · simp at hy
    exact ⟨y, by omega, by omega, m, hm.mono (by omega) (Nat.le_refl _), by omega, by omega, rfl, rfl, xrR_self⟩
  · have hN := s2 _ (getD_mem dY hlt)
    have hr1 : Rd 549755813888 b q := h1.to (by omega) (by omega)
    have init : ∀ b3 : Int, q ≤ b3 → b3 ≤ q + 2 → ∃ a_18, a_18 ≤ (s.getD i dY).snd.fst.length ∧ ∃ a_19 : List Rt, a_19.length = a_18 ∧ p ≤ b3 ∧ b3 ≤ p + 100 * (i : Int) + 3 + 30 * (3 - k) + 2 * (a_18 : Int) ∧ (0 : Int) = a_18 ∧ a_19 = [] := fun b3 e1 e2 =>
      ⟨0, by omega, [], rfl, by omega, by omega, rfl, rfl⟩
    have stp : ∀ (j : Nat) (al : List Rt) (u : Int), al.length = j → p ≤ u → u ≤ p + 100 * (i : Int) + 3 + 30 * (3 - k) + 2 * (j : Int) → j < (s.getD i dY).snd.fst.length → ∀ (v w u' : Int), u ≤ u' → u' ≤ u + 2 → (al.length + 1) * 16 ≤ 70368744177664 ∧
        ∃ a_29, a_29 ≤ (s.getD i dY).snd.fst.length ∧ ∃ a_30, a_30.length = a_29 ∧ p ≤ u' ∧ u' ≤ p + 100 * (i : Int) + 3 + 30 * (3 - k) + 2 * (a_29 : Int) ∧ (s.getD i dY).snd.fst.length - a_29 < (s.getD i dY).snd.fst.length - j ∧ IntKind.i64.wrap ((j : Int) + 1) = (a_29 : Int) ∧ al.length + 1 = a_30.length ∧
        IsO (AObj.arr (al.length + 1) 2 (joinC al.length (cQ al) (rowsCell [[i64 v, i64 w]]))) (arQ a_30) := fun j al u e1 e2 e3 e4 v w u' e5 e6 =>
      ⟨by omega, j + 1, by omega, al ++ [(v, w)], by simp; omega, by omega, by omega, by omega, wrap_succ e4 (by omega), by simp, IsO_join EncN.eQ (IsR_row EncN.eQ fun j hj => by
        match j, hj with
        | 0, _ => exact Is_i64.2 rfl
        | 1, _ => exact Is_i64.2 rfl)⟩
    have ext : ∀ (j : Nat) (al : List Rt) (v w u : Int), j ≤ (s.getD i dY).snd.fst.length → al.length = j → p ≤ u → u ≤ p + 100 * (i : Int) + 3 + 30 * (3 - k) + 2 * (j : Int) →
        ∃ a_26 : List Rw, a_26.length ≤ 1000 ∧ (∀ (a : ByteArray) (a_27 : List Rt) (a_28 b : Int), (a, a_27, a_28, b) ∈ a_26 → a_27.length ≤ 1000) ∧ ∃ (a_27 : ByteArray) (a_28 : List Rt), a_28.length ≤ 1000 ∧ m.length = a_26.length ∧ (s.getD i dY).fst = a_27 ∧ al.length = a_28.length ∧ IsO (xrR m) (xrR a_26) ∧ (a_28 = [] ∨ al = a_28) ∧
          ∀ y : List Nat, HPut a_26.length y → ∃ a_30 : Int, 0 ≤ a_30 ∧ a_30 ≤ 3 ∧ ∃ a_31 : Mdl, MdB (3 * i + 3 - a_30.toNat) 2 a_31 ∧ p ≤ u ∧ u ≤ p + 100 * (i : Int) + 1 + 30 * (3 - a_30) ∧ max a_30 0 < k ∧ y.length = a_31.length ∧ IntKind.i64.wrap (k - 1) = a_30 ∧
            IsO (xrR (List.map (fun i => (a_26 ++ [(a_27, a_28, v, w)]).getD i dR) y)) (xrR a_31) := fun j al v w u e1 e2 e3 e4 => by
      obtain ⟨m1, m2⟩ : m.length ≤ 3 * i + 3 - k.toNat ∧ ∀ x ∈ m, x.1.size ≤ 10 ∧ x.2.1.length ≤ 2 := id hm
      refine ⟨m, by omega, fun a b c d h => by have := (m2 _ h).2; dsimp only at this; omega, (s.getD i dY).fst, al, by omega, rfl, rfl, rfl, xrR_self, .inr rfl, fun y hy => ?_⟩
      obtain ⟨y1, y2, y3⟩ := hy
      refine ⟨k - 1, by omega, by omega, List.map (fun i' => (m ++ [((s.getD i dY).fst, al, v, w)]).getD i' dR) y, ⟨by simp; omega, fun x hx => ?_⟩, by omega, by omega, by omega, by simp, wrap_small (by omega) (by omega), xrR_self⟩
      obtain ⟨n, hn, rfl⟩ := List.mem_map.1 hx
      have hn' := y3 n hn
      have : (m ++ [((s.getD i dY).fst, al, v, w)]).getD n dR ∈ m ++ [((s.getD i dY).fst, al, v, w)] := getD_mem dR (by simp; omega)
      rcases List.mem_append.1 this with e | e
      · exact m2 _ e
      · rw [List.mem_singleton.1 e]; exact ⟨hN.1, by dsimp only; omega⟩
    repeat' first
      | exact hlt
      | exact hr1
      | apply And.intro
    all_goals
      intro b3 h3 h4
      repeat' first
        | exact hlt
        | exact init b3 h3 h4
        | apply And.intro
    all_goals
      intro j al v w u e1 e2 e3 e4
      repeat' first
        | exact hlt
        | exact fun e5 => ext j al v w u e1 e2 e3 e4
        | apply And.intro
    all_goals
      intro e5
      repeat' first
        | exact hlt
        | exact e5
        | exact h1.to (by omega) (by omega)
        | exact fun v w u' => stp j al u e2 e3 e4 e5 v w u'
        | apply And.intro
  · obtain rfl : k = 0 := by omega
    exact ⟨i + 1, by omega, m, hm.mono (by simp; omega) (Nat.le_refl _), by omega, by omega, by omega, rfl, wrap_succ hlt (by omega), xrR_self⟩
  · exact ⟨m, hm.mono (by omega) (Nat.le_refl _), by omega, by omega, rfl, xrR_self⟩)
theorem k_l7Some : SoundC Tryz.prog K_l7Some.1 K_l7Some.2 := k_l7Some0 k_l7Any
end Cg

/-
  The codes' contracts: drawn terms, and the law that functions are functional. No condition.
-/
set_option linter.unusedVariables false
set_option linter.unusedSimpArgs false
set_option maxRecDepth 100000
namespace Cg
open Go Go.Proofs Pl
theorem copy_push {ks : List Tm} {k : Nat} (hk : k ≤ ks.length) (hlt : k < ks.length) : IsO (AObj.arr (min k ks.length + 1) 2 (joinC (min k ks.length) (cT (List.take k ks)) (rowsCell [[st (Tree.val (ks.getD k dT)), terms (Tree.kids (ks.getD k dT))]]))) (arT (List.take (k + 1) ks)) := by
  have hlen : (ks.take k).length = k := by simp; omega
  rw [Nat.min_eq_left hk, Pl.take_succ_getD dT hlt]
  have := IsO_join (l := ks.take k) (m := [ks.getD k dT]) (d := dT) EncN.eT (IsR_row EncN.eT (Is_rowK rfl (Is_terms_kidsT.2 rfl)))
  rw [hlen] at this
  exact this
theorem namesT : ∀ y ∈ [(⟨#[]⟩ : ByteArray), ⟨#[65]⟩, ⟨#[97, 98, 99]⟩, ⟨#[102]⟩], y.size ≤ 10 := by decide
theorem LitR.rds {α : Type} {k : Nat} {e : α → Nat → AV} {d : α} {rows : List (List AV)} {l : List α} (h : LitR k e d rows l) : Rds k e d rows.length (rowsCell rows) l := ⟨h.1, fun i hi j hj => h.2 i hi j hj⟩
theorem CB_ge (n : Nat) : 12 ≤ CB n := by cases n <;> (unfold CB; omega)
theorem k_l4Copy : ∀ n, SoundC Tryz.prog (K_l4Copy n).1 (K_l4Copy n).2
  | 0 => ⟨by exact callable_of (by kernel_rfl), fun x hx => absurd hx.2 (Nat.not_lt_zero _)⟩
  | n + 1 => sound_of hm (CtxOK.nil.and (K := K_l4Copy n) (k_l4Copy n)) (fun (x : TP) => A_l4Copy x.1 x.2) (by kernel_rfl) fun (x : TP) hl => (by
    obtain ⟨v, ks⟩ := x
    obtain ⟨h1, h2⟩ : SmT (.mk v ks) ∧ manyL ks < n + 1 := hl
    rw [← vc_l4Copy n v ks]
    simp [-List.getD_eq_getElem?_getD, -List.mem_cons, -Bool.forall_bool, -Bool.exists_bool, and_assoc, peta, tl_inj, ex_1, ex_2, ex_3, ex_4, ex_5, ex_6, ex_7, ex_8, ex_9, ey_2, ey_3, ey_4, ey_5, ey_6, ey_7, ey_8, ey_9]
    refine ⟨⟨0, by omega, rfl, rfl, .inl rfl⟩, fun k hk => ⟨fun hlt => ?_, fun hge => List.take_of_length_le hge⟩⟩
    have ht := getD_mem dT hlt
    have c1 := costT_mem ht
    have c2 := costT_eq (.mk v ks)
    simp only [Tree.val_mk, Tree.kids_mk] at c2
    have m1 := many_mem ht
    have m2 := (ks.getD k dT).many_eq
    exact ⟨hlt, by omega, by omega, by omega, k + 1, hlt, by omega, wrap_succ hlt (by omega), by omega, copy_push hk hlt⟩)
theorem k_lCopy : SoundC Tryz.prog K_lCopy.1 K_lCopy.2 := SoundC.famI (fun (x : TP) => manyL x.2) k_l4Copy
theorem k_l4CopyO : SoundC Tryz.prog K_l4CopyO.1 K_l4CopyO.2 := sound_of hm (CtxOK.nil.and k_lCopy) (fun (x : TP) => A_l4CopyO x.1 x.2) (by kernel_rfl) fun (x : TP) hl => (by
  obtain ⟨v, ks⟩ := x
  replace hl : SmT (.mk v ks) := hl
  rw [← vc_l4CopyO v ks]
  simp [-List.getD_eq_getElem?_getD, -List.mem_cons, -Bool.forall_bool, -Bool.exists_bool, and_assoc, peta, tl_inj, ex_1, ex_2, ex_3, ex_4, ex_5, ex_6, ex_7, ex_8, ex_9, ey_2, ey_3, ey_4, ey_5, ey_6, ey_7, ey_8, ey_9]
  refine ⟨⟨0, by omega, rfl, rfl, .inl rfl⟩, fun k hk => ⟨fun hlt => ?_, fun hge => List.take_of_length_le hge⟩⟩
  have ht := getD_mem dT hlt
  have c1 := costT_mem ht
  have c2 := costT_eq (.mk v ks)
  simp only [Tree.val_mk, Tree.kids_mk] at c2
  exact ⟨hlt, by omega, by omega, k + 1, hlt, by omega, wrap_succ hlt (by omega), by omega, copy_push hk hlt⟩)
theorem k_l4Any : ∀ n, SoundC Tryz.prog (K_l4Any n).1 (K_l4Any n).2
  | 0 => ⟨by exact callable_of (by kernel_rfl), fun x hx => absurd hx.2 (Nat.not_lt_zero _)⟩
  | n + 1 => sound_of hm ((CtxOK.nil.and (K := K_l4Any n) (k_l4Any n)).and k_pick) (fun ((b, p, s, u, d) : AX) => A_l4Any b p s u d) (by kernel_rfl) fun ((b, p, s, u, d) : AX) hl => (by
    obtain ⟨⟨h1, h1', h2, h3⟩, h4⟩ : (Rd 137438953472 b p ∧ p + CB d.toNat ≤ 137438953472 ∧ SgB 5 2 s ∧ d ≤ 4) ∧ d.toNat < n + 1 := hl
    rw [← vc_l4Any n b p s u d]
    simp [-List.getD_eq_getElem?_getD, -List.mem_cons, -Bool.forall_bool, -Bool.exists_bool, and_assoc, peta, tl_inj, ex_1, ex_2, ex_3, ex_4, ex_5, ex_6, ex_7, ex_8, ex_9, ey_2, ey_3, ey_4, ey_5, ey_6, ey_7, ey_8, ey_9]
    have g3 := h1.2.2.1
    have g4 := h1.2.2.2
    obtain ⟨s1, s2⟩ : s.length ≤ 5 ∧ ∀ x ∈ s, x.1.size ≤ 10 ∧ x.2.1.length ≤ 2 := id h2
    have hC := CB_ge d.toNat
    refine ⟨⟨0, by omega, [], Nat.le_refl _, fun x hx => (by cases hx), rfl, rfl, rfl, rfl⟩, fun i ws hi hw hwd => ⟨fun hlt => ?_, fun hge => ⟨fun hnil => ?_, fun hne => ?_⟩⟩⟩
    · have h5 := s2 _ (getD_mem dY hlt)
      have keep : ∃ a_8, a_8 ≤ s.length ∧ ∃ x : List Sym, x.length ≤ a_8 ∧ WdB d x ∧ s.length - a_8 < s.length - i ∧ ws.length = x.length ∧ IntKind.i64.wrap ((i : Int) + 1) = (a_8 : Int) ∧ (x = [] ∨ ws = x) :=
        ⟨i + 1, by omega, ws, by omega, hwd, by omega, rfl, wrap_succ hlt (by omega), .inr rfl⟩
      have push : (d ≤ 1 → (s.getD i dY).2.1 = []) → (ws.length + 1) * 48 ≤ 70368744177664 ∧ ∃ a_8, a_8 ≤ s.length ∧ ∃ x : List Sym, x.length ≤ a_8 ∧ WdB d x ∧ s.length - a_8 < s.length - i ∧ ws.length + 1 = x.length ∧ IntKind.i64.wrap ((i : Int) + 1) = (a_8 : Int) ∧
          IsO (AObj.arr (ws.length + 1) 3 (joinC ws.length (cY ws) (rowsCell [[st (s.getD i dY).fst, ints (s.getD i dY).snd.fst, i64 (s.getD i dY).snd.snd]]))) (arY x) := fun h6 =>
        ⟨by omega, i + 1, by omega, ws ++ [s.getD i dY], by simp; omega, mem_push_imp hwd ⟨h5.1, h5.2, h6⟩, by omega, by simp, wrap_succ hlt (by omega), IsO_join EncN.eY (IsR_row EncN.eY (Is_rowY (Is_ints.2 rfl)))⟩
      exact ⟨hlt, fun he => ⟨fun hd => ⟨hlt, push fun h => absurd h (by omega)⟩, fun hd => ⟨hlt, fun ha => ⟨hlt, push fun _ => ha⟩, fun _ => keep⟩⟩, fun _ => keep⟩
    · refine ⟨⟨#[113]⟩, [], ?_, by omega, rfl, rfl⟩
      show costT (.mk ⟨#[113]⟩ []) ≤ _
      rw [costT_eq]
      simp only [Tree.val_mk, Tree.kids_mk, costTs, List.length_nil]
      have : (⟨#[113]⟩ : ByteArray).size = 1 := rfl
      omega
    · refine ⟨h1.to (by omega) (by omega), fun y hy _ => ?_⟩
      have hw0 : 0 < ws.length := List.length_pos_iff.2 hne
      obtain ⟨y1, y2⟩ := hy (by omega)
      have hyl : y.toNat < ws.length := by omega
      have hwy := hwd _ (getD_mem dY hyl)
      refine ⟨y1, y2, hyl, ⟨(ws.getD y.toNat dY).1, (ws.getD y.toNat dY).2.1, (ws.getD y.toNat dY).2.2, fun x hx => by rw [List.mem_singleton.1 hx]; exact hwy, 0, Nat.zero_le _, [], rfl, Nat.zero_le _, by omega, by simp, rfl, rfl, rfl, rfl, rfl, rfl⟩, fun nm args so j kids q hw1 hj hkl hc q1 q2 => ⟨fun hlt => ?_, fun hge => ?_⟩⟩
      · obtain ⟨a1, a2, a3⟩ := hw1 _ List.mem_cons_self
        dsimp only at a1 a2 a3
        have hd : 2 ≤ d := Classical.byContradiction fun h => by
          have := a3 (by omega)
          rw [this] at hlt; exact absurd hlt (Nat.not_lt_zero _)
        have hdn : d.toNat = (d.toNat - 1) + 1 := by omega
        have hCe : CB d.toNat = 12 + 2 * CB (d.toNat - 1) := by rw [hdn]; rfl
        have hw2 : IntKind.i64.wrap (d - 1) = d - 1 := wrap_small (by omega) (by omega)
        have hdt : (d - 1).toNat = d.toNat - 1 := by omega
        rw [hw2, hdt]
        generalize hCC : CB (d.toNat - 1) = C at *
        have hj2 : (j : Int) * C ≤ C := by
          have : j = 0 ∨ j = 1 := by omega
          rcases this with rfl | rfl <;> simp <;> omega
        have hj3 : ((j + 1 : Nat) : Int) * C = j * C + C := by push_cast; rw [Int.add_mul, Int.one_mul]
        have hcn : (j + 1) * C = j * C + C := Nat.succ_mul j C
        refine ⟨hlt, h1.to (by omega) (by omega), by omega, h2, by omega, by omega, fun nm2 k2 q' ht q3 q4 => ⟨by omega, nm, args, so, hw1, j + 1, hlt, kids ++ [.mk nm2 k2], by simp; omega, ?_, by omega, by rw [hj3]; omega, by omega, wrap_succ hlt (by omega), rfl, rfl, rfl, rfl, by simp, IsO_join EncN.eT (IsR_row EncN.eT (Is_rowT (Is_terms.2 rfl)))⟩⟩
        have ht' : costT (.mk nm2 k2) ≤ C := ht
        rw [costTs_snoc, hcn]
        omega
      · obtain ⟨a1, a2, a3⟩ := hw1 _ List.mem_cons_self
        dsimp only at a1 a2 a3
        have c2 := costT_eq (.mk nm kids)
        simp only [Tree.val_mk, Tree.kids_mk] at c2
        by_cases hd : d ≤ 1
        · have h0 : j = 0 := by have := a3 hd; rw [this] at hj; simpa using hj
          subst h0
          refine ⟨nm, kids, ?_, q1, ?_, rfl, rfl, .inr rfl⟩
          · show costT (.mk nm kids) ≤ _
            simp at hc
            omega
          · simp at q2
            omega
        · have hdn : d.toNat = (d.toNat - 1) + 1 := by omega
          have hCe : CB d.toNat = 12 + 2 * CB (d.toNat - 1) := by rw [hdn]; rfl
          have hj2 : j * CB (d.toNat - 1) ≤ 2 * CB (d.toNat - 1) := Nat.mul_le_mul_right _ (by omega)
          have hj3 : (j : Int) * (CB (d.toNat - 1) : Int) = ((j * CB (d.toNat - 1) : Nat) : Int) := by push_cast; rfl
          rw [hj3] at q2
          generalize hm : j * CB (d.toNat - 1) = M at *
          refine ⟨nm, kids, ?_, q1, ?_, rfl, rfl, .inr rfl⟩
          · show costT (.mk nm kids) ≤ _
            omega
          · omega)
theorem k_lAny : SoundC Tryz.prog K_lAny.1 K_lAny.2 := SoundC.famE (fun (x : AX) => x.2.2.2.2.toNat) k_l4Any
set_option maxHeartbeats 8000000 in
theorem g_l4Some (b : List Int) (p : Int) (s : Pl.Sig) (h1 : Rd 68719476736 b p) (h2 : SgB 5 2 s) : GoalW Tryz.prog [K_pick, K_num, K_of, K_lAny, K_l4CopyO] ([]) K_l4Some.1 K_l4Some.2 (b, p, s) := GoalW.of (vc_l4Some b p s) (by
  simp (maxSteps := 2000000) [-List.getD_eq_getElem?_getD, -List.mem_cons, -Bool.forall_bool, -Bool.exists_bool, and_assoc, peta, tl_inj, ex_1, ex_2, ex_3, ex_4, ex_5, ex_6, ex_7, ex_8, ex_9, ey_2, ey_3, ey_4, ey_5, ey_6, ey_7, ey_8, ey_9]
  have g3 := h1.2.2.1
  have g4 := h1.2.2.2
  refine ⟨h1.to (by omega) (by omega), fun y _ _ => ⟨h1.to (by omega) (by omega), fun d hd => ?_⟩⟩
  have hC : CB d.toNat ≤ 372 ∧ d ≤ 4 := by
    simp at hd
    rcases hd with rfl | rfl | rfl | rfl <;> exact ⟨by decide, by decide⟩
  refine ⟨h1.to (by omega) (by omega), by omega, h2, hC.2, fun a ks q ht q1 q2 => ⟨h1.to (by omega) (by omega), fun z _ _ => ?_⟩⟩
  have ht' : costT (.mk a ks) ≤ CB d.toNat := ht
  have c2 := costT_eq (.mk a ks)
  simp only [Tree.val_mk, Tree.kids_mk] at c2
  have c3 : ∀ (v : ByteArray) (l : List Tm), costT (.mk v l) = v.size + l.length + costTs l := fun v l => by
    have := costT_eq (.mk v l)
    simpa only [Tree.val_mk, Tree.kids_mk] using this
  have h0j : LitR 2 eT dT [[st a, terms ks]] [Tree.mk a ks] := LitR.nil.cons (Is_rowT (Is_terms.2 rfl))
  have h1j := (Rds.cel (d := dT) EncN.eT ks).join h0j.rds
  have h2j := (Rds.cel (d := dT) EncN.eT ks).join (h0j.cons (r := [st a, terms ks]) (v := Tree.mk a ks) (Is_rowT (Is_terms.2 rfl))).rds
  refine ⟨fun _ => ⟨h1.to (by omega) (by omega), fun nm hnm => ⟨?_, by omega, by omega⟩⟩, fun _ => ⟨fun _ => ?_, fun _ => ⟨fun _ => ?_, fun _ => ⟨?_, by omega, by omega⟩⟩⟩⟩
  · have := namesT nm hnm
    show costT (.mk nm ks) ≤ 1500
    rw [c3]; omega
  · refine ⟨a, ks, by omega, rfl, rfl, .inr rfl, by omega, by omega, a, ks ++ [Tree.mk a ks], ?_, by omega, by omega, rfl, h1j.is⟩
    show costT (.mk a (ks ++ [.mk a ks])) ≤ 1500
    rw [c3, costTs_snoc, List.length_append, List.length_singleton]; omega
  · refine ⟨a, ks, by omega, rfl, rfl, .inr rfl, a, ks, by omega, rfl, rfl, .inr rfl, by omega, by omega, a, ks ++ [Tree.mk a ks, Tree.mk a ks], ?_, by omega, by omega, rfl, h2j.is⟩
    show costT (.mk a (ks ++ [.mk a ks, .mk a ks])) ≤ 1500
    have e : ks ++ [.mk a ks, .mk a ks] = (ks ++ [.mk a ks]) ++ [.mk a ks] := by simp
    rw [e, c3, costTs_snoc, costTs_snoc, List.length_append, List.length_append, List.length_singleton]; omega
  · show costT (.mk a ks) ≤ 1500
    omega)
theorem k_l4Some : SoundC Tryz.prog K_l4Some.1 K_l4Some.2 := sound_ofW hm (((((CtxOK.nil.and k_l4CopyO).and k_lAny).and k_of).and k_num).and k_pick) (fun _ => []) (by kernel_rfl) fun ((b, p, s) : List Int × Int × Pl.Sig) hb => g_l4Some b p s hb.1 hb.2
theorem k_DrawModelTerm : SoundC Tryz.prog K_DrawModelTerm.1 K_DrawModelTerm.2 := sound_of hm ((((CtxOK.nil.and k_l4Some).and k_l7Some).and k_l4Sig).and k_l16Open) (fun _ => []) (by kernel_rfl) fun (b : List Int) hb => (by
  obtain ⟨h1, h2⟩ : Sz b ∧ Byt b := hb
  rw [← vc_DrawModelTerm b]
  simp [-List.getD_eq_getElem?_getD, -List.mem_cons, -Bool.forall_bool, -Bool.exists_bool, and_assoc, peta, tl_inj, ex_1, ex_2, ex_3, ex_4, ex_5, ex_6, ex_7, ex_8, ex_9, ey_2, ey_3, ey_4, ey_5, ey_6, ey_7, ey_8, ey_9]
  exact ⟨by omega, h2, fun y hr => ⟨hr.to (by omega) (by omega), fun s hs => ⟨hr.to (by omega) (by omega), hs, fun m q hm q1 q2 => ⟨hr.to (by omega) (by omega), hs, fun a ks q' ht _ _ => ⟨hs, hm, ht⟩⟩⟩⟩⟩)
theorem Is_rowsI {α : Type} {k : Nat} {e : α → Nat → AV} {d : α} (hk : 0 < k) {v : α} {m : List α} {r : List AV} (h : ∀ v', (∀ j, j < k → Is (r.getD j .any) (e v' j)) ↔ v = v') :
    Is (.lit 1 k (rowsCell [r])) (.sl m.length k fun i j => e (m.getD i d) j) ↔ [v] = m := by
  constructor
  · intro h'
    rw [Is] at h'
    obtain ⟨h1, h2⟩ := h'
    match m, h1 with
    | [x], _ =>
      congr 1
      refine (h x).1 fun j hj => ?_
      rcases h2 with h2 | ⟨_, h2⟩
      · omega
      · exact h2 0 (by omega) j hj
  · rintro rfl
    refine Is_lit_of rfl fun i hi j hj => ?_
    have : i = 0 := by simpa using hi
    subst this
    exact (h v).2 rfl j hj
@[simp] theorem terms_lit1 {a : ByteArray} {ks m : List Tm} : Is (.lit 1 2 (rowsCell [[st a, terms ks]])) (terms m) ↔ [Tree.mk a ks] = m := Is_rowsI (e := eT) (d := dT) (by decide) fun v' => by
  constructor
  · intro h
    have h0 : Is (st a) (st v'.val) := h 0 (by decide)
    have h1 : Is (terms ks) (kidsT v') := h 1 (by decide)
    exact Tree.ext (Is_st.1 h0) (Is_terms_kidsT.1 h1)
  · rintro rfl j hj
    exact Is_rowT (Is_terms.2 rfl) j hj
@[simp] theorem terms_lit0 {a : ByteArray} {q : Nat} {c : Nat → Nat → AV} {m : List Tm} : Is (.lit 1 2 (rowsCell [[st a, .lit 0 q c]])) (terms m) ↔ [Tree.mk a []] = m := Is_rowsI (e := eT) (d := dT) (by decide) fun v' => by
  constructor
  · intro h
    have h0 : Is (st a) (st v'.val) := h 0 (by decide)
    have h1 : Is (.lit 0 q c) (kidsT v') := h 1 (by decide)
    unfold kidsT at h1
    rw [Is] at h1
    exact Tree.ext (Is_st.1 h0) (List.eq_nil_of_length_eq_zero h1.1.symm).symm
  · rintro rfl j hj
    exact Is_rowT (terms_nil.2 rfl) j hj
end Cg

/-
  The codes' contracts: drawn atoms. No condition.
-/
set_option linter.unusedVariables false
set_option linter.unusedSimpArgs false
set_option maxRecDepth 100000
namespace Cg
open Go Go.Proofs Pl
theorem _root_.Pl.PutB.nil {ns : List Tm} {t : Tm} {n : Nat} : PutB ns t n [] [] := ⟨Nat.zero_le _, rfl, fun u hu => by cases hu⟩
theorem _root_.Pl.PutB.push {ns : List Tm} {t u : Tm} {n n' : Nat} {ms : List Tm} {ts : List Int} {c : Int} (h : PutB ns t n ms ts) (hu : u ∈ ns ∨ u = t) (hn : n + 1 ≤ n') : PutB ns t n' (ms ++ [u]) (ts ++ [c]) :=
  ⟨by have := h.1; simp; omega, by have := h.2.1; simp; omega, mem_push_imp h.2.2 hu⟩
theorem _root_.Pl.PutB.mono {ns : List Tm} {t : Tm} {n n' : Nat} {ms : List Tm} {ts : List Int} (h : PutB ns t n ms ts) (hn : n ≤ n') : PutB ns t n' ms ts := ⟨Nat.le_trans h.1 hn, h.2⟩
theorem _root_.Pl.AtB.mono {n n' : Nat} {x : Atm} (h : AtB n x) (hn : n ≤ n') : AtB n' x := ⟨h.1, h.2.1, Nat.le_trans h.2.2.1 hn, Nat.le_trans h.2.2.2.1 hn, h.2.2.2.2⟩
theorem costTs_le {c : Nat} : ∀ {l : List Tm}, (∀ t ∈ l, costT t ≤ c) → costTs l ≤ l.length * c
  | [], _ => Nat.zero_le _
  | t :: ts, h => by
    have h1 := h t List.mem_cons_self
    have h2 := costTs_le (l := ts) fun u hu => h u (List.mem_cons_of_mem _ hu)
    rw [costTs, List.length_cons, Nat.succ_mul]; omega
theorem at_sm {n : Nat} {x : Atm} (h : AtB n x) (hn : n ≤ 100 := by decide) : costA x ≤ 1048576 := by
  obtain ⟨h1, h2, h3, h4, h5⟩ := h
  have h6 := costTs_le h5
  have h7 : x.2.2.2.1.length * 400 ≤ 100 * 400 := Nat.mul_le_mul_right _ (by omega)
  unfold costA; omega
theorem Rds.tm (a : ByteArray) (ks : List Tm) : Rds 2 eT dT 1 (rowsCell [[st a, terms ks]]) [.mk a ks] := Rds.row (terms_row a ks)
theorem Rds.tk (t : Tm) : Rds 2 eT dT 1 (rowsCell [[st (Tree.val t), kidsT t]]) [t] := Rds.row (IsR_row EncN.eT (Is_rowK rfl (Is_kidsT2.2 rfl)))
theorem Rds.int (a : Int) : Rds 1 eI 0 1 (rowsCell [[i64 a]]) [a] := Rds.row (ints_row a)
set_option maxHeartbeats 8000000 in
theorem g_l6Put (a : Atm) (v : ByteArray) (ks : List Tm) (n : Int) (h1 : SmA a) (h2 : SmT (.mk v ks)) (h3 : a.2.2.2.1.length ≤ 100) (h4 : a.2.2.2.2.1.length = a.2.2.2.1.length) : GoalW Tryz.prog [K_lText] (A_l6Put a v ks n) K_l6Put.1 K_l6Put.2 (a, (v, ks), n) := GoalW.of (vc_l6Put a v ks n) (by
  simp (maxSteps := 2000000) [-List.getD_eq_getElem?_getD, -List.mem_cons, -Bool.forall_bool, -Bool.exists_bool, and_assoc, peta, tl_inj, ex_1, ex_2, ex_3, ex_4, ex_5, ex_6, ex_7, ex_8, ex_9, ey_2, ey_3, ey_4, ey_5, ey_6, ey_7, ey_8, ey_9]
  refine ⟨⟨0, Nat.zero_le _, false, [], [], PutB.nil, rfl, rfl, rfl, rfl, rfl⟩, fun i d ms ts hi hp => ⟨fun hlt => ?_, fun hge => ?_⟩⟩
  · have ht := getD_mem dT hlt
    have c1 : costT (a.2.2.2.1.getD i dT) ≤ 1048576 := by
      have := costT_mem ht
      have h1' : costA a ≤ 1048576 := h1
      unfold costA at h1'; omega
    have p1 := hp.1
    have p2 := hp.2.1
    have hd1 : (if d = true then 1 else 0) ≤ 1 := by split <;> omega
    have w := wrap_succ hlt (by omega)
    have jt := (Rds.cel (d := dT) EncN.eT ms).join (Rds.tk (a.2.2.2.1.getD i dT))
    have ji := (Rds.cel (d := (0 : Int)) EncN.eI ts).join (Rds.int (a.2.2.2.2.1.getD i 0))
    refine ⟨hlt, c1, fun hd => ⟨h2, fun _ => ⟨by omega, by omega, h2, fun _ => ⟨hlt, by omega, by omega, by omega, i + 1, hlt, true, ms ++ [.mk v ks] ++ [a.2.2.2.1.getD i dT], ts ++ [n] ++ [a.2.2.2.2.1.getD i 0], ?_, by omega, rfl, w, by simp, by simp, ?_, ?_⟩, fun _ => ⟨i + 1, hlt, true, ms ++ [.mk v ks], ts ++ [n], ?_, by omega, rfl, w, by simp, by simp, ?_, ?_⟩⟩,
      fun _ => ⟨h2, fun _ => ⟨hlt, by omega, by omega, by omega, i + 1, hlt, d, ms ++ [a.2.2.2.1.getD i dT], ts ++ [a.2.2.2.2.1.getD i 0], ?_, by omega, rfl, w, by simp, by simp, jt.iso, ji.iso⟩, fun _ => ⟨i + 1, hlt, d, ms, ts, hp.mono (by omega), by omega, rfl, w, rfl, rfl, .inr rfl, .inr rfl⟩⟩⟩,
      fun hd => ⟨h2, fun _ => ⟨hlt, by omega, by omega, by omega, i + 1, hlt, d, ms ++ [a.2.2.2.1.getD i dT], ts ++ [a.2.2.2.2.1.getD i 0], ?_, by omega, rfl, w, by simp, by simp, jt.iso, ji.iso⟩, fun _ => ⟨i + 1, hlt, d, ms, ts, hp.mono (by omega), by omega, rfl, w, rfl, rfl, .inr rfl, .inr rfl⟩⟩⟩
    · subst hd; exact (hp.push (n' := i + 1) (.inr rfl) (by simp)).push (.inl ht) (by simp)
    · exact (((Rds.cel (d := dT) EncN.eT ms).join (Rds.tm v ks)).join (Rds.tk _)).iso
    · exact (((Rds.cel (d := (0 : Int)) EncN.eI ts).join (Rds.int n)).join (Rds.int _)).iso
    · subst hd; exact hp.push (.inr rfl) (by simp)
    · exact ((Rds.cel (d := dT) EncN.eT ms).join (Rds.tm v ks)).iso
    · exact ((Rds.cel (d := (0 : Int)) EncN.eI ts).join (Rds.int n)).iso
    · exact hp.push (.inl ht) (by omega)
    · exact hp.push (.inl ht) (by omega)
  · have p1 := hp.1
    have p2 := hp.2.1
    have hd1 : (if d = true then 1 else 0) ≤ 1 := by split <;> omega
    refine ⟨fun hd => ⟨by omega, by omega, ms ++ [Tree.mk v ks], ts ++ [n], ?_, rfl, by simp, by simp, ((Rds.cel (d := dT) EncN.eT ms).join (Rds.tm v ks)).iso, ((Rds.cel (d := (0 : Int)) EncN.eI ts).join (Rds.int n)).iso⟩, fun hd => ⟨ms, ts, hp.mono (by omega), rfl, rfl, rfl, .inr rfl, .inr rfl⟩⟩
    subst hd
    exact hp.push (.inr rfl) (by simp; omega))
theorem k_l6Put : SoundC Tryz.prog K_l6Put.1 K_l6Put.2 := sound_ofW hm (CtxOK.nil.and k_lText) (fun ((a, (v, ks), n) : Atm × TP × Int) => A_l6Put a v ks n) (by kernel_rfl) fun ((a, (v, ks), n) : Atm × TP × Int) hb => g_l6Put a v ks n hb.1 hb.2.1 hb.2.2.1 hb.2.2.2
theorem sl0 {c : Nat → Nat → AV} {m : List Tm} : Is (.sl 0 2 c) (terms m) ↔ m = [] := by
  unfold terms
  rw [Is]
  constructor
  · intro h; exact List.eq_nil_of_length_eq_zero h.1.symm
  · rintro rfl; exact ⟨rfl, .inl rfl⟩
theorem noc : costT (.mk ByteArray.empty []) ≤ 1500 := by
  rw [costT_eq]
  decide
theorem CB_le2 {d : Nat} (h : d ≤ 2) : CB d ≤ 84 := by
  have : d = 0 ∨ d = 1 ∨ d = 2 := by omega
  rcases this with rfl | rfl | rfl <;> decide
set_option maxHeartbeats 8000000 in
theorem g_l6Any (b : List Int) (p : Int) (s : Pl.Sig) (h1 : Rd 68719476736 b p) (h2 : SgB 5 2 s) : GoalW Tryz.prog [K_pick, K_num, K_lAny, K_l6Put] (A_l6Any b p s) K_l6Any.1 K_l6Any.2 (b, p, s) := GoalW.of (vc_l6Any b p s) (by
  simp (maxSteps := 2000000) [-List.getD_eq_getElem?_getD, -List.mem_cons, -Bool.forall_bool, -Bool.exists_bool, and_assoc, peta, tl_inj, ex_1, ex_2, ex_3, ex_4, ex_5, ex_6, ex_7, ex_8, ex_9, ey_2, ey_3, ey_4, ey_5, ey_6, ey_7, ey_8, ey_9]
  have g3 := h1.2.2.1
  have g4 := h1.2.2.2
  refine ⟨h1.to (by omega) (by omega), fun y _ _ => ⟨fun _ => ⟨h1.to (by omega) (by omega), fun so _ _ => ⟨h1.to (by omega) (by omega), fun d hd => ?_⟩⟩, fun _ => ⟨h1.to (by omega) (by omega), fun bd _ => ⟨h1.to (by omega) (by omega), fun sc _ _ => ⟨h1.to (by omega) (by omega), fun k hk => ?_⟩⟩⟩⟩⟩
  · have hC : CB d.toNat ≤ 84 ∧ d ≤ 4 := by
      simp at hd
      exact ⟨CB_le2 (by omega), by omega⟩
    refine ⟨h1.to (by omega) (by omega), by omega, h2, hC.2, fun v ks q ht q1 q2 => ⟨h1.to (by omega) (by omega), fun d' hd' => ?_⟩⟩
    have hC' : CB d'.toNat ≤ 84 ∧ d' ≤ 4 := by
      simp at hd'
      exact ⟨CB_le2 (by omega), by omega⟩
    refine ⟨h1.to (by omega) (by omega), by omega, h2, hC'.2, fun v' ks' q' ht' q3 q4 => ?_⟩
    have t1 : costT (.mk v ks) ≤ CB d.toNat := ht
    have t2 : costT (.mk v' ks') ≤ CB d'.toNat := ht'
    exact ⟨1, v, ks, v', ks', [], [], 0, false, ⟨by show costT (.mk v ks) ≤ 1500; omega, by show costT (.mk v' ks') ≤ 1500; omega, Nat.zero_le _, Nat.zero_le _, fun t ht => by cases ht⟩, q', by omega, by omega, rfl, rfl, rfl, rfl, rfl, rfl, rfl, rfl, rfl, rfl, rfl, rfl⟩
  · simp at hk
    refine ⟨⟨k, by omega, by omega, [], by simp; omega, [], rfl, fun t ht => (by cases ht), by omega, by omega, rfl, rfl, rfl, rfl, rfl, rfl⟩, fun k ms ts bd sc q k0 k3 hm ht hc q1 q2 => ⟨fun hk => ⟨h1.to (by omega) (by omega), fun d hd => ?_⟩, fun hk => ?_⟩⟩
    · have hC : CB d.toNat ≤ 84 ∧ d ≤ 4 := by
        simp at hd
        exact ⟨CB_le2 (by omega), by omega⟩
      refine ⟨h1.to (by omega) (by omega), by omega, h2, hC.2, fun v ks q' hv q3 q4 => ⟨h1.to (by omega) (by omega), fun c _ => ?_⟩⟩
      have hv' : costT (.mk v ks) ≤ CB d.toNat := hv
      have hs : costA (2, (ByteArray.empty, []), (ByteArray.empty, []), ms, ts, bd, sc) ≤ 1048576 := at_sm (n := 3) ⟨noc, noc, by dsimp only; omega, by dsimp only; omega, hc⟩
      refine ⟨2, ByteArray.empty, [], ByteArray.empty, [], ms, ts, bd, sc, hs, v, ks, by omega, by omega, ht, rfl, rfl, sl0.2 rfl, rfl, sl0.2 rfl, rfl, rfl, rfl, rfl, rfl, rfl, fun ms' ts' hp => ⟨k - 1, by omega, by omega, ms', by have := hp.1; omega, ts', hp.2.1, fun t ht => ?_, by omega, by omega, by omega, wrap_small (by omega) (by omega), rfl, rfl, sl0.2 rfl, rfl, sl0.2 rfl, rfl, rfl, .inr rfl, .inr rfl⟩⟩
      rcases hp.2.2 t ht with e | e
      · exact hc t e
      · rw [e]; omega
    · exact ⟨2, ByteArray.empty, [], ByteArray.empty, [], ms, ts, bd, sc, ⟨noc, noc, by dsimp only; omega, by dsimp only; omega, hc⟩, q, by omega, by omega, rfl, rfl, sl0.2 rfl, rfl, sl0.2 rfl, rfl, rfl, rfl, rfl, rfl, .inr rfl, .inr rfl⟩)
theorem k_l6Any : SoundC Tryz.prog K_l6Any.1 K_l6Any.2 := sound_ofW hm ((((CtxOK.nil.and k_l6Put).and k_lAny).and k_num).and k_pick) (fun ((b, p, s) : BX) => A_l6Any b p s) (by kernel_rfl) fun ((b, p, s) : BX) hb => g_l6Any b p s hb.1 hb.2
end Cg

/-
  Plain laws of literals in models: strict and weak bounds, equality turned round, the model of no rows, parts of sums. No condition.
-/
set_option linter.unusedVariables false
set_option linter.unusedSimpArgs false
namespace Pl
open Go Cg
theorem mt_no {s : Sig} {m : Mdl} {t : Tm} (h : modelOk s m = false) : modelTerm s m t = ((0, 0), false) := by
  unfold modelTerm
  rw [if_pos]
  simp [h]
theorem modelAll_no {s : Sig} {m : Mdl} {l : List Ltr} (h : modelOk s m = false) : modelAll s m l = false := by unfold modelAll; rw [h]; rfl
end Pl

/-
  The codes' contracts: drawn literals, and laws of literals in models. No condition.
-/
set_option linter.unusedVariables false
set_option linter.unusedSimpArgs false
set_option maxRecDepth 100000
namespace Cg
open Go Go.Proofs Pl
theorem lrow (l : Ltr) : IsR 10 eL dL (rowsCell [[i64 l.1.1, st l.1.2.1.1, terms l.1.2.1.2, st l.1.2.2.1.1, terms l.1.2.2.1.2, terms l.1.2.2.2.1, ints l.1.2.2.2.2.1, i64 l.1.2.2.2.2.2.1, bl l.1.2.2.2.2.2.2, bl l.2]]) [l] := IsR_row EncN.eL (Is_rowL (Is_terms.2 rfl) (Is_terms.2 rfl) (Is_terms.2 rfl) (Is_ints.2 rfl))
theorem lpush (l : List Ltr) (x : Ltr) : IsO (AObj.arr (l.length + 1) 10 (joinC l.length (cL l) (rowsCell [[i64 x.1.1, st x.1.2.1.1, terms x.1.2.1.2, st x.1.2.2.1.1, terms x.1.2.2.1.2, terms x.1.2.2.2.1, ints x.1.2.2.2.2.1, i64 x.1.2.2.2.2.2.1, bl x.1.2.2.2.2.2.2, bl x.2]]))) (arL (l ++ [x])) := ((Rds.cel (d := dL) EncN.eL l).join (Rds.row (lrow x))).iso
theorem _root_.Pl.LsB.push {n n' : Nat} {l : List Ltr} {x : Ltr} (h : LsB n l) (hx : AtB 4 x.1) (hn : n + 1 ≤ n') : LsB n' (l ++ [x]) := ⟨by have := h.1; simp; omega, mem_push_imp h.2 hx⟩
theorem ls_sm {n : Nat} {l : List Ltr} (h : LsB n l) (hn : n ≤ 20 := by decide) : costLs l ≤ 1048576 := by
  have : sumN costL l ≤ l.length * 10000 := sumN_le fun x hx => by
    obtain ⟨h1, h2, h3, h4, h5⟩ := h.2 x hx
    have h6 := costTs_le h5
    have h7 : x.1.2.2.2.1.length * 400 ≤ 4 * 400 := Nat.mul_le_mul_right _ (by omega)
    unfold costL costA; omega
  have h1 := h.1
  have : l.length * 10000 ≤ 20 * 10000 := Nat.mul_le_mul_right _ (by omega)
  unfold costLs; omega
theorem litNot_b {x : Ltr} (h : AtB 4 x.1) : AtB 4 (litNot x).1 := by
  unfold litNot
  split
  · exact h
  · exact ⟨noc, noc, Nat.zero_le _, Nat.zero_le _, fun t ht => by cases ht⟩
set_option maxHeartbeats 8000000 in
theorem g_l6Copy (x : Pl.Atm) (hl : SmA x) : GoalW Tryz.prog [K_lCopy] (A_l6Copy x) K_l6Copy.1 K_l6Copy.2 (x) := GoalW.of (vc_l6Copy x) (by
  simp (maxSteps := 2000000) [-List.getD_eq_getElem?_getD, -List.mem_cons, -Bool.forall_bool, -Bool.exists_bool, and_assoc, peta, tl_inj, ex_1, ex_2, ex_3, ex_4, ex_5, ex_6, ex_7, ex_8, ex_9, ey_2, ey_3, ey_4, ey_5, ey_6, ey_7, ey_8, ey_9]
  have hl' : costA x ≤ 1048576 := hl
  unfold costA at hl'
  refine ⟨by omega, by omega, by omega, ⟨0, by omega, rfl, rfl, .inl rfl⟩, fun k hk => ⟨fun hlt => ?_, fun hge => List.take_of_length_le hge⟩⟩
  have ht := costT_mem (getD_mem dT hlt)
  exact ⟨hlt, by omega, by omega, k + 1, hlt, by omega, wrap_succ hlt (by omega), by omega, copy_push hk hlt⟩)
theorem k_l6Copy : SoundC Tryz.prog K_l6Copy.1 K_l6Copy.2 := sound_ofW hm (CtxOK.nil.and k_lCopy) (fun (x : Pl.Atm) => A_l6Copy x) (by kernel_rfl) fun (x : Pl.Atm) hb => g_l6Copy x hb
set_option maxHeartbeats 8000000 in
theorem g_sLitNot (x : Pl.Ltr) (hl : SmA x.1) : GoalW Tryz.prog [K_l6Right, K_l6Copy] ([]) K_sLitNot.1 K_sLitNot.2 (x) := GoalW.of (vc_sLitNot x) (by
  obtain ⟨⟨kd, ⟨av, ak⟩, ⟨bv, bk⟩, ms, ts, bd, sc⟩, no⟩ := x
  dsimp only at *
  simp (maxSteps := 2000000) [-List.getD_eq_getElem?_getD, -List.mem_cons, -Bool.forall_bool, -Bool.exists_bool, and_assoc, peta, tl_inj, ex_1, ex_2, ex_3, ex_4, ex_5, ex_6, ex_7, ex_8, ex_9, ey_2, ey_3, ey_4, ey_5, ey_6, ey_7, ey_8, ey_9]
  refine ⟨hl, fun h => ?_, fun h => ?_⟩
  · have e : litNot ((kd, (av, ak), (bv, bk), ms, ts, bd, sc), no) = dL := by
      unfold litNot
      dsimp only
      rw [if_neg (by rw [h]; decide)]
    rw [e]
    exact ⟨rfl, rfl, rfl, rfl, rfl, rfl, rfl, rfl, rfl, rfl⟩
  · have e : litNot ((kd, (av, ak), (bv, bk), ms, ts, bd, sc), no) = ((kd, (av, ak), (bv, bk), ms, ts, bd, sc), !no) := by
      unfold litNot
      dsimp only
      rw [if_pos h]
    rw [e]
    exact ⟨hl, rfl, rfl, rfl, rfl, rfl, rfl, rfl, rfl, rfl, by simp⟩)
theorem k_sLitNot : SoundC Tryz.prog K_sLitNot.1 K_sLitNot.2 := sound_ofW hm ((CtxOK.nil.and k_l6Copy).and k_l6Right) (fun (x : Pl.Ltr) => []) (by kernel_rfl) fun (x : Pl.Ltr) hb => g_sLitNot x hb
set_option maxHeartbeats 8000000 in
theorem g_l6Lit (b : List Int) (p : Int) (s : Pl.Sig) (h1 : Rd 34359738368 b p) (h2 : SgB 5 2 s) : GoalW Tryz.prog [K_l6Any, K_pick] ([]) K_l6Lit.1 K_l6Lit.2 ((b, p, s)) := GoalW.of (vc_l6Lit b p s) (by
  simp (maxSteps := 2000000) [-List.getD_eq_getElem?_getD, -List.mem_cons, -Bool.forall_bool, -Bool.exists_bool, and_assoc, peta, tl_inj, ex_1, ex_2, ex_3, ex_4, ex_5, ex_6, ex_7, ex_8, ex_9, ey_2, ey_3, ey_4, ey_5, ey_6, ey_7, ey_8, ey_9]
  have g3 := h1.2.2.1
  have g4 := h1.2.2.2
  exact ⟨h1.to (by omega) (by omega), h2, fun kd av ak bv bk ms ts bd sc q ha q1 q2 => ⟨h1.to (by omega) (by omega), fun y _ _ => ⟨kd, av, ak, bv, bk, ms, ts, bd, sc, ha.mono (by decide), _, _, by omega, by omega, rfl, rfl, rfl, rfl, rfl, rfl, rfl, rfl, rfl, rfl, rfl⟩⟩⟩)
theorem k_l6Lit : SoundC Tryz.prog K_l6Lit.1 K_l6Lit.2 := sound_ofW hm ((CtxOK.nil.and k_pick).and k_l6Any) (fun ((b, p, s) : BX) => []) (by kernel_rfl) fun ((b, p, s) : BX) hb => g_l6Lit b p s hb.1 hb.2
set_option maxHeartbeats 8000000 in
theorem g_DrawModelAll (b : List Int) (h1 : Sz b) (h2 : Byt b) : GoalW Tryz.prog [K_l16Open, K_l4Sig, K_l7Some, K_pick, K_l6Lit, K_sModelLit, K_sLitNot] (A_DrawModelAll) K_DrawModelAll.1 K_DrawModelAll.2 (b) := GoalW.of (vc_DrawModelAll b) (by
  simp (maxSteps := 2000000) [-List.getD_eq_getElem?_getD, -List.mem_cons, -Bool.forall_bool, -Bool.exists_bool, and_assoc, peta, tl_inj, ex_1, ex_2, ex_3, ex_4, ex_5, ex_6, ex_7, ex_8, ex_9, ey_2, ey_3, ey_4, ey_5, ey_6, ey_7, ey_8, ey_9]
  refine ⟨by omega, h2, fun y hr => ⟨hr.to (by omega) (by omega), fun s hs => ⟨hr.to (by omega) (by omega), hs, fun m q hm q1 q2 => ?_⟩⟩⟩
  refine ⟨hr.to (by omega) (by omega), fun n n0 n4 => ⟨⟨y, s, hs, m, hm, n, n0, by omega, [], ⟨Nat.zero_le _, fun x hx => (by cases hx)⟩, hr.to (by omega) (by omega), rfl, rfl, rfl, rfl, rfl, rfl⟩, ?_⟩⟩
  clear hr hs hm q1 q2 n0 n4
  intro y s m i l q hs hm i0 i3 hl hr
  have e1 := sg_sm hs
  have e2 := md_sm hm
  have g3 := hr.2.2.1
  have g4 := hr.2.2.2
  have l1 := hl.1
  refine ⟨fun hi => ⟨hr.to (by omega) (by omega), hs, fun kd av ak bv bk ms ts bd sc no q' ha q1 q2 => ⟨e1, e2, at_sm ha, ?_⟩⟩, fun hi => ⟨hs, hm, Nat.le_trans hl.1 (by omega), hl.2⟩⟩
  have fin : ∀ (x : Ltr) (q2 : Int), AtB 4 x.1 → q' ≤ q2 → q2 ≤ q' + 1 → (l.length + 1) * 160 ≤ 70368744177664 ∧ ∃ a_26 a_27, SgB 5 2 a_27 ∧ ∃ a_28, MdB 16 3 a_28 ∧ ∃ a_29, 0 ≤ a_29 ∧ a_29 ≤ 3 ∧ ∃ a_30, LsB (3 - a_29.toNat) a_30 ∧ Rd (3000 - 700 * a_29 + 700) a_26 q2 ∧ max a_29 0 < i ∧ l.length + 1 = a_30.length ∧
      IntKind.i64.wrap (i - 1) = a_29 ∧ y = a_26 ∧ s = a_27 ∧ m = a_28 ∧ IsO (AObj.arr (l.length + 1) 10 (joinC l.length (cL l) (rowsCell [[i64 x.1.1, st x.1.2.1.1, terms x.1.2.1.2, st x.1.2.2.1.1, terms x.1.2.2.1.2, terms x.1.2.2.2.1, ints x.1.2.2.2.2.1, i64 x.1.2.2.2.2.2.1, bl x.1.2.2.2.2.2.2, bl x.2]]))) (arL a_30) := fun x q2 hx u1 u2 =>
    ⟨by omega, y, s, hs, m, hm, i - 1, by omega, by omega, l ++ [x], hl.push hx (by omega), ⟨hr.1, hr.2.1, by omega, by omega⟩, by omega, by simp, wrap_small (by omega) (by omega), rfl, rfl, rfl, lpush l x⟩
  exact ⟨fun _ => ⟨fun _ => ⟨⟨hr.1, hr.2.1, by omega, by omega⟩, fun z _ _ => ⟨fun _ => ⟨at_sm ha, fin (litNot ((kd, (av, ak), (bv, bk), ms, ts, bd, sc), no)) _ (litNot_b ha) (by omega) (by omega)⟩, fun _ => fin ((kd, (av, ak), (bv, bk), ms, ts, bd, sc), no) _ ha (by omega) (by omega)⟩⟩, fun _ => fin ((kd, (av, ak), (bv, bk), ms, ts, bd, sc), no) _ ha (by omega) (by omega)⟩, fun _ => fin ((kd, (av, ak), (bv, bk), ms, ts, bd, sc), no) _ ha (by omega) (by omega)⟩)
theorem k_DrawModelAll : SoundC Tryz.prog K_DrawModelAll.1 K_DrawModelAll.2 := sound_ofW hm (((((((CtxOK.nil.and k_sLitNot).and k_sModelLit).and k_l6Lit).and k_pick).and k_l7Some).and k_l4Sig).and k_l16Open) (fun (b : List Int) => A_DrawModelAll) (by kernel_rfl) fun (b : List Int) hb => g_DrawModelAll b hb.1 hb.2
set_option maxHeartbeats 8000000 in
theorem g_yModelBent (b : List Int) (hb : Byt b) : GoalW Tryz.prog [K_DrawModelAll, K_DrawModelTerm, K_iModelOk, K_sModelOk, K_iModelTerm, K_iModelAll] ([]) K_yModelBent.1 K_yModelBent.2 (b) := GoalW.of (vc_yModelBent b) (by
  simp (maxSteps := 2000000) [-List.getD_eq_getElem?_getD, -List.mem_cons, -Bool.forall_bool, -Bool.exists_bool, and_assoc, peta, tl_inj, ex_1, ex_2, ex_3, ex_4, ex_5, ex_6, ex_7, ex_8, ex_9, ey_2, ey_3, ey_4, ey_5, ey_6, ey_7, ey_8, ey_9]
  refine fun l1 => ⟨by omega, hb, fun s m l hs hm hl => ⟨by omega, hb, fun s' m' v ks hs' hm' ht => ?_⟩⟩
  have e1 := sg_sm hs
  have e2 := md_sm hm
  have e3 := ls_sm hl
  have e4 : costT (.mk v ks) ≤ 1500 := ht
  refine ⟨e1, e2, e1, e2, fun _ => ⟨e1, e2⟩, fun h => ?_⟩
  rw [mt_no h, modelAll_no h, modelAll_no h]
  exact ⟨e1, e2, by omega, fun _ _ => ⟨fun _ => ⟨e1, e2, e3, fun _ => ⟨e1, e2, by decide, rfl⟩, rfl⟩, rfl⟩, rfl, rfl⟩)
theorem k_yModelBent : SoundC Tryz.prog K_yModelBent.1 K_yModelBent.2 := sound_ofW hm ((((((CtxOK.nil.and k_iModelAll).and k_iModelTerm).and k_sModelOk).and k_iModelOk).and k_DrawModelTerm).and k_DrawModelAll) (fun (b : List Int) => []) (by kernel_rfl) fun (b : List Int) hb => g_yModelBent b hb
end Cg
