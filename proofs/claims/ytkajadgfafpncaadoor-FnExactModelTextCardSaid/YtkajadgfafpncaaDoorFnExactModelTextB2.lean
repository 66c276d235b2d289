/-
  What the law leans on, part 2. No condition.
-/
import Derived.WalkKit
import Derived.BigCall
import Derived.Lib.LaidTab
import Derived.LaidSub
import Derived.LaidMore
import Derived.MakeChecks
import Derived.Test.YtkajadgfafpncaaDoorRows
import Derived.Test.YtkajadgfafpncaaDoorFnExactModelTextB1
/-
  The codes' contracts: texts. No condition.
-/
set_option linter.unusedVariables false
set_option linter.unusedSimpArgs false
set_option maxRecDepth 100000
namespace Pl
open Go Cg
theorem bapp (a b : List UInt8) : mkB a ++ mkB b = mkB (a ++ b) := by
  apply ByteArray.ext
  rw [ByteArray.data_append]
  apply Array.toList_inj.1
  rw [Array.toList_append]
  rfl
theorem lit0 : ByteArray.mk #[] = mkB [] := rfl
theorem lit1 (a : UInt8) : ByteArray.mk #[a] = mkB [a] := rfl
theorem lit2 (a b : UInt8) : ByteArray.mk #[a, b] = mkB [a, b] := rfl
theorem lit3 (a b c : UInt8) : ByteArray.mk #[a, b, c] = mkB [a, b, c] := rfl
theorem lit4 (a b c d : UInt8) : ByteArray.mk #[a, b, c, d] = mkB [a, b, c, d] := rfl
theorem dec_eq (n : Int) : dec n = mkB (itoa n) := rfl
theorem textT_eq (t : Tm) : textT t = mkB (textB t) := rfl
theorem byteS_eq (x : Int) : byteS x = mkB [UInt8.ofNat x.toNat] := rfl
theorem mkB_inj {a b : List UInt8} : mkB a = mkB b ↔ a = b := ⟨fun h => by
  have : (mkB a).data.toList = (mkB b).data.toList := by rw [h]
  exact this, fun h => by rw [h]⟩
theorem tx_no {ok : Bool} {l : List UInt8} (h : ok = false) : tx ok l = mkB [] := by unfold tx; rw [if_neg (by rw [h]; decide)]; rfl
theorem tx_yes {ok : Bool} {l : List UInt8} (h : ok = true) : tx ok l = mkB l := by unfold tx; rw [if_pos h]
theorem catB_step {α : Type} (d : α) (f : α → List UInt8) {l : List α} {k : Nat} (h : k < l.length) : catB f (l.take (k + 1)) = catB f (l.take k) ++ f (l.getD k d) := by
  rw [Pl.take_getD d h]
  simp [catB]
theorem catB_len {α : Type} (f : α → List UInt8) (c : Nat) : ∀ {l : List α}, (∀ x ∈ l, (f x).length ≤ c) → (catB f l).length ≤ l.length * c
  | [], _ => Nat.zero_le _
  | x :: xs, h => by
    have h1 := h x List.mem_cons_self
    have h2 := catB_len f c (l := xs) fun y hy => h y (List.mem_cons_of_mem _ hy)
    have e : catB f (x :: xs) = f x ++ catB f xs := rfl
    rw [e, List.length_append, List.length_cons, Nat.succ_mul]; omega
theorem catB_take {α : Type} (f : α → List UInt8) (c : Nat) {l : List α} (h : ∀ x ∈ l, (f x).length ≤ c) (k : Nat) : (catB f (l.take k)).length ≤ l.length * c := by
  have h1 := catB_len f c (l := l.take k) fun x hx => h x (List.mem_of_mem_take hx)
  have h2 : (l.take k).length * c ≤ l.length * c := Nat.mul_le_mul_right _ (by simp; omega)
  omega
theorem digits_len : ∀ (k u : Nat), u < 10 ^ (k + 1) → (Go.Lib.decDigits u).length ≤ k + 1
  | 0, u, h => by rw [Go.Lib.decDigits, dif_pos (by simpa using h)]; simp
  | k + 1, u, h => by
    rw [Go.Lib.decDigits]
    split
    · simp
    · have := digits_len k (u / 10) (by rw [Nat.pow_succ] at h; omega)
      simp; omega
theorem itoa_len {n : Int} (h : In64 n) : (itoa n).length ≤ 21 := by
  obtain ⟨h1, h2⟩ := h
  unfold itoa Go.Lib.itoa
  split
  · have := digits_len 19 n.natAbs (by omega)
    simp only [List.length_cons]; omega
  · have := digits_len 19 n.toNat (by omega)
    omega
theorem ratB_len {q : Rt} (h : ratOk q = true) : (ratB q).length ≤ 43 := by
  have h' := ratOk_iff.1 h
  have j1 := itoa_len (n := q.1) ⟨by omega, by omega⟩
  have j2 := itoa_len (n := q.2) ⟨by omega, by omega⟩
  unfold ratB
  split
  · omega
  · simp only [List.length_append, List.length_singleton]; omega
theorem catB_all {α : Type} (f : α → List UInt8) {l : List α} {k : Nat} (h : l.length ≤ k) : catB f (l.take k) = catB f l := by rw [List.take_of_length_le h]
theorem row_facts {r : Rw} (h : rowOk r = true) : (bl' r.1).length ≤ 2 ∧ r.2.1.length ≤ 2 ∧ ratOk r.2.2 = true ∧ ∀ q ∈ r.2.1, ratOk q = true := by
  obtain ⟨h1, h2, h3, h4⟩ := rowOk_iff.1 h
  simp only [nameOk, Bool.and_eq_true, decide_eq_true_eq] at h1
  exact ⟨h1.1.2, h2, h3, List.all_eq_true.1 h4⟩
theorem spC_len {l : List Rt} (h1 : l.length ≤ 2) (h2 : ∀ q ∈ l, ratOk q = true) (k : Nat) : (catB spB (l.take k)).length ≤ 88 := by
  have := catB_take spB 44 (l := l) (fun q hq => by have := ratB_len (h2 q hq); unfold spB; simp; omega) k
  omega
theorem rowB_len {r : Rw} (h : rowOk r = true) : (rowB r).length ≤ 136 := by
  obtain ⟨h1, h2, h3, h4⟩ := row_facts h
  have := spC_len h2 h4 r.2.1.length
  rw [List.take_length] at this
  have := ratB_len h3
  unfold rowB
  simp only [List.length_append, List.length_cons, List.length_nil]
  omega
theorem model_facts {m : Mdl} (h : mRight m = true) : m.length ≤ 40 ∧ ∀ r ∈ m, rowOk r = true := by
  simp only [mRight, Bool.and_eq_true, decide_eq_true_eq] at h
  exact ⟨h.2, mL_mem h.1⟩
theorem modelB_len {m : Mdl} (h : mRight m = true) (k : Nat) : (modelB (m.take k)).length ≤ 5480 := by
  obtain ⟨h1, h2⟩ := model_facts h
  have := catB_take lineR 137 (l := m) (fun r hr => by have := rowB_len (h2 r hr); unfold lineR; simp; omega) k
  unfold modelB
  omega
theorem in64_ok {q : Rt} (h : ratOk q = true) : In64 q.1 ∧ In64 q.2 := by
  rw [ratOk_iff] at h
  exact ⟨⟨by omega, by omega⟩, ⟨by omega, by omega⟩⟩
end Pl
namespace Cg
open Go Go.Proofs Pl
theorem Ext.grow (w : World) (k : Nat) (os : Array Obj) : Ext w (Go.Sort.grow (w.drewN k) os) := ⟨rfl, rfl, rfl, by show _ ≤ (w.heap ++ os).size; simp, fun b hb => by show (w.heap ++ os)[b]? = _; rw [Array.getElem?_append_left hb]⟩
theorem tab_pow {S : Nat → Prop} {w : World} (h : Gl S w) : Go.Lib.TabIs Tryd.prog w "internal/strconv.uint64pow10" .u64 Go.Lib.pow10Tab := by
  obtain ⟨h1, c, T, fr, h2, h3⟩ := h _ List.mem_cons_self
  unfold Go.Lib.TabIs World.var?
  rw [show Tryd.prog.globalNamed "internal/strconv.uint64pow10" = some 0 by kernel_rfl]
  have h2 : w.heap[(0 : Nat)]? = some (.cells c T fr) := h2
  have h3 : c = ((List.range 20).map fun i => Value.int .u64 ((10 ^ i : Nat) : Int)).toArray := h3
  simp only [Option.bind_some, h2, h3]
  unfold Go.Lib.pow10Tab
  rw [List.map_map]
  rfl
theorem k_Itoa : SoundC Tryd.prog K_Itoa.1 K_Itoa.2 := ⟨callable_of (by kernel_rfl), fun x hx S w vals hin hgl hrel => by
  obtain ⟨y0, r0, rfl, ha, hc⟩ := hrel
  cases hc
  have ha : y0 = .int .i64 x := ha
  subst ha
  exact (Tryd.strconv_Itoa x (Int.le_trans (by decide) hx.1) hx.2 w (tab_pow hgl)).mono fun e w' ⟨he, k, os, hw⟩ => by
    subst hw
    exact ⟨_, S, he, Ext.grow w k os, fun _ h => h, fun _ h => .inl h, fun b hb => Nat.lt_of_lt_of_le (hin b hb) (Ext.grow w k os).size, rfl⟩⟩
theorem digit_eq {m : Nat} (h : m < 10) : UInt8.ofNat (IntKind.u8.wrap (IntKind.i64.wrap (48 + (m : Int)))).toNat = UInt8.ofNat (48 + m) := by
  rw [wrap_small (by omega) (by omega)]
  congr 1
  have : IntKind.u8.wrap (48 + (m : Int)) = 48 + (m : Int) := by
    show (48 + (m : Int)) % 256 = _
    omega
  rw [this]; omega
theorem dec_step {m : Nat} (h : 9 < m) : itoa (m : Int) = itoa ((m / 10 : Nat) : Int) ++ [UInt8.ofNat (48 + m % 10)] := by
  unfold itoa Go.Lib.itoa
  rw [if_neg (by omega), if_neg (by omega)]
  show Go.Lib.decDigits m = Go.Lib.decDigits (m / 10) ++ _
  rw [Go.Lib.decDigits, dif_neg (by omega)]
theorem dec_last {m : Nat} (h : m < 10) : itoa (m : Int) = [UInt8.ofNat (48 + m)] := by
  unfold itoa Go.Lib.itoa
  rw [if_neg (by omega)]
  show Go.Lib.decDigits m = _
  rw [Go.Lib.decDigits, dif_pos h]
set_option maxHeartbeats 8000000 in
theorem g_l16Dec (n : Nat) (x : Int) (h1 : In64 x) (h2 : (if x < 0 then 1 else 0) < n + 1) : GoalW Tryd.prog [K_l16Dec n] (A_l16Dec x) (K_l16Dec (n + 1)).1 (K_l16Dec (n + 1)).2 x := GoalW.of (vc_l16Dec n x) (by
  simp (maxSteps := 2000000) [-List.getD_eq_getElem?_getD, -List.mem_cons, -Bool.forall_bool, -Bool.exists_bool, and_assoc, peta, tl_inj, ex_1, ex_2, ex_3, ex_4, ex_5, ex_6, ex_7, ex_8, ex_9, ey_2, ey_3, ey_4, ey_5, ey_6, ey_7, ey_8, ey_9]
  obtain ⟨b1, b2⟩ := h1
  refine ⟨fun hn => by omega, fun hn => ⟨fun h0 => ?_, fun h0 => ⟨⟨x.toNat, ⟨by omega, by omega⟩, h0, ?_, by omega⟩, fun a b ha _ he => ⟨fun h9 => ?_, fun h9 => ?_⟩⟩⟩⟩
  · have e : IntKind.i64.wrap (-x) = -x := wrap_small (by omega) (by omega)
    have i1 := itoa_len (n := -x) ⟨by omega, by omega⟩
    rw [e]
    rw [if_pos h0] at h2
    refine ⟨⟨by omega, by omega⟩, by rw [if_neg (by omega)]; omega, ?_, ?_⟩
    · show 1 + ((itoa (-x)).length : Int) ≤ _
      omega
    · rw [lit1, dec_eq, bapp]
      unfold dec itoa Go.Lib.itoa
      rw [if_pos h0, if_neg (by omega), show (-x).toNat = x.natAbs by omega]
      rfl
  · rw [lit0, dec_eq, dec_eq, bapp, List.append_nil, Int.toNat_of_nonneg h0]
  · have i1 := itoa_len (n := x) ⟨b1, b2⟩
    have hz : (dec x).size = (dec (a : Int)).size + b.size := by rw [he]; simp
    have hz : (itoa x).length = (itoa (a : Int)).length + b.size := hz
    rw [show ((a : Int)).tmod 10 = ((a % 10 : Nat) : Int) from rfl, digit_eq (Nat.mod_lt _ (by omega))]
    refine ⟨?_, a / 10, ⟨by omega, by have := ha.2; omega⟩, h0, ?_, by omega, ?_⟩
    · show (1 : Int) + b.size ≤ _
      omega
    · rw [he, dec_eq, dec_step (by omega), lit1, ← bapp, ByteArray.append_assoc]; rfl
    · rw [wrap_small (by have := ha.2; omega) (by have := ha.2; omega)]; rfl
  · have i1 := itoa_len (n := x) ⟨b1, b2⟩
    have hz : (dec x).size = (dec (a : Int)).size + b.size := by rw [he]; simp
    have hz : (itoa x).length = (itoa (a : Int)).length + b.size := hz
    rw [digit_eq (by omega)]
    refine ⟨?_, ?_⟩
    · show (1 : Int) + b.size ≤ _
      omega
    · rw [he, dec_eq, dec_last (by omega), lit1])
theorem k_l16Dec (n : Nat) : SoundC Tryd.prog (K_l16Dec n).1 (K_l16Dec n).2 := by
  induction n with
  | zero => exact sound_of hm CtxOK.nil (fun _ => []) (by kernel_rfl) fun x h => absurd h.2 (Nat.not_lt_zero _)
  | succ n ih => exact sound_ofW hm (CtxOK.nil.and (K := K_l16Dec n) ih) (fun (x : Int) => A_l16Dec x) (by kernel_rfl) fun (x : Int) hb => g_l16Dec n x hb.1 hb.2
theorem k_dec : SoundC Tryd.prog K_dec.1 K_dec.2 := SoundC.fam (fun (x : Int) => if x < 0 then 1 else 0) fun n => k_l16Dec n
set_option maxHeartbeats 8000000 in
theorem g_sRatText (x : Pl.Rt)  : GoalW Tryd.prog [K_sRatOk, K_dec] ([]) K_sRatText.1 K_sRatText.2 (x) := GoalW.of (vc_sRatText x) (by
  simp only [lit0, lit1, lit2, lit3, lit4, dec_eq, textT_eq, byteS_eq, bapp, mkB_size, mkB_inj]
  simp (maxSteps := 2000000) [-List.getD_eq_getElem?_getD, -List.mem_cons, -Bool.forall_bool, -Bool.exists_bool, and_assoc, peta, tl_inj, ex_1, ex_2, ex_3, ex_4, ex_5, ex_6, ex_7, ex_8, ex_9, ey_2, ey_3, ey_4, ey_5, ey_6, ey_7, ey_8, ey_9]
  refine ⟨fun h => (tx_no h).symm, fun h => ?_⟩
  obtain ⟨i1, i2⟩ := in64_ok h
  have j1 := itoa_len i1
  have j2 := itoa_len i2
  rw [tx_yes h]
  exact ⟨fun h2 => ⟨i1, by unfold ratB; rw [if_pos h2]⟩, fun h2 => ⟨i1, by omega, i2, by omega, by unfold ratB; rw [if_neg h2]; simp⟩⟩)
theorem k_sRatText : SoundC Tryd.prog K_sRatText.1 K_sRatText.2 := sound_ofW hm ((CtxOK.nil.and k_dec).and k_sRatOk) (fun (x : Pl.Rt) => []) (by kernel_rfl) fun (x : Pl.Rt) hb => g_sRatText x 
set_option maxHeartbeats 8000000 in
theorem g_ratText (x : Pl.Rt) (h1 : ratOk x = true) : GoalW Tryd.prog [K_Itoa] ([]) K_ratText.1 K_ratText.2 (x) := GoalW.of (vc_ratText x) (by
  simp only [lit0, lit1, lit2, lit3, lit4, dec_eq, textT_eq, byteS_eq, bapp, mkB_size, mkB_inj]
  simp (maxSteps := 2000000) [-List.getD_eq_getElem?_getD, -List.mem_cons, -Bool.forall_bool, -Bool.exists_bool, and_assoc, peta, tl_inj, ex_1, ex_2, ex_3, ex_4, ex_5, ex_6, ex_7, ex_8, ex_9, ey_2, ey_3, ey_4, ey_5, ey_6, ey_7, ey_8, ey_9]
  obtain ⟨i1, i2⟩ := in64_ok h1
  have j1 := itoa_len i1
  have j2 := itoa_len i2
  exact ⟨fun h2 => ⟨i1, by unfold ratB; rw [if_pos h2]⟩, fun h2 => ⟨i1, by omega, i2, by omega, by unfold ratB; rw [if_neg h2]; simp⟩⟩)
theorem k_ratText : SoundC Tryd.prog K_ratText.1 K_ratText.2 := sound_ofW hm (CtxOK.nil.and k_Itoa) (fun (x : Pl.Rt) => []) (by kernel_rfl) fun (x : Pl.Rt) hb => g_ratText x hb
set_option maxHeartbeats 8000000 in
theorem g_sModelText (x : Pl.Mdl) (h1 : SmM x) : GoalW Tryd.prog [K_l7Right, K_sRatText] (A_sModelText x) K_sModelText.1 K_sModelText.2 (x) := GoalW.of (vc_sModelText x) (by
  simp only [lit0, lit1, lit2, lit3, lit4, dec_eq, textT_eq, byteS_eq, bapp, mkB_size, mkB_inj]
  simp (maxSteps := 2000000) [-List.getD_eq_getElem?_getD, -List.mem_cons, -Bool.forall_bool, -Bool.exists_bool, and_assoc, peta, tl_inj, ex_1, ex_2, ex_3, ex_4, ex_5, ex_6, ex_7, ex_8, ex_9, ey_2, ey_3, ey_4, ey_5, ey_6, ey_7, ey_8, ey_9]
  have hs := h1
  refine ⟨⟨0, by omega, .inr rfl, rfl, rfl⟩, fun k hk hr => ⟨fun hlt => ⟨h1, fun h2 => ?_, fun h2 => ?_⟩, fun hge => ?_⟩⟩
  · obtain ⟨g1, g2⟩ := model_facts h2
    have g3 := g2 _ (getD_mem dR hlt)
    obtain ⟨f1, f2, f3, f4⟩ := row_facts g3
    have f0 : (List.getD x k dR).1.size ≤ 2 := f1
    have g5 := modelB_len h2 k
    have i3 := ratB_len f3
    have e1 : (List.getD x k dR).1 = mkB (bl' (List.getD x k dR).1) := rfl
    refine ⟨hlt, by omega, hlt, h2, ⟨0, by omega, ?_, rfl⟩, fun j _ _ hj => ⟨hlt, fun hjl => ?_, fun hjg => ?_⟩⟩
    · show _ = mkB (_ ++ (_ ++ []))
      rw [List.append_nil, ← bapp]; rfl
    · have g4 := spC_len f2 f4 j
      have i4 := f4 _ (getD_mem dQ hjl)
      have i5 := ratB_len i4
      simp only [tx_yes i4, mkB_size, bapp, mkB_inj]
      refine ⟨by omega, hlt, hjl, by omega, hlt, h2, j + 1, hjl, by omega, ?_, wrap_small (by omega) (by omega)⟩
      rw [catB_step dQ spB hjl]
      simp [spB]
    · have g4 := spC_len f2 f4 j
      simp only [tx_yes f3, mkB_size, bapp, mkB_inj]
      refine ⟨by omega, hlt, by omega, by omega, k + 1, hlt, .inl h2, by omega, ?_, wrap_small (by omega) (by omega)⟩
      rw [catB_all _ hjg]
      refine Eq.trans ?_ (catB_step dR lineR hlt).symm
      simp only [lineR, rowB, modelB, List.append_assoc]
  · rcases hr with hr | hr
    · rw [hr] at h2; cases h2
    · subst hr; exact (tx_no h2).symm
  · rcases hr with hr | hr
    · rw [tx_yes hr, mkB_inj]; exact catB_all _ hge
    · have : x = [] := List.length_eq_zero_iff.1 (by omega)
      subst this; subst hr; rfl)
theorem k_sModelText : SoundC Tryd.prog K_sModelText.1 K_sModelText.2 := sound_ofW hm ((CtxOK.nil.and k_sRatText).and k_l7Right) (fun (x : Pl.Mdl) => A_sModelText x) (by kernel_rfl) fun (x : Pl.Mdl) hb => g_sModelText x hb
set_option maxHeartbeats 8000000 in
theorem g_rowtext (x : Pl.Rw) (h1 : rowOk x = true) : GoalW Tryd.prog [K_ratText] (A_rowtext x) K_rowtext.1 K_rowtext.2 (x) := GoalW.of (vc_rowtext x) (by
  simp only [lit0, lit1, lit2, lit3, lit4, dec_eq, textT_eq, byteS_eq, bapp, mkB_size, mkB_inj]
  simp (maxSteps := 2000000) [-List.getD_eq_getElem?_getD, -List.mem_cons, -Bool.forall_bool, -Bool.exists_bool, and_assoc, peta, tl_inj, ex_1, ex_2, ex_3, ex_4, ex_5, ex_6, ex_7, ex_8, ex_9, ey_2, ey_3, ey_4, ey_5, ey_6, ey_7, ey_8, ey_9]
  obtain ⟨f1, f2, f3, f4⟩ := row_facts h1
  have i3 := ratB_len f3
  have c3 := fun k => spC_len f2 f4 k
  refine ⟨⟨0, by omega, by show x.1 = mkB (bl' x.1 ++ []); rw [List.append_nil]; rfl, rfl⟩, fun k hk => ⟨fun hlt => ?_, fun hge => ?_⟩⟩
  · have c4 := c3 k
    have i4 := f4 _ (getD_mem dQ hlt)
    have i5 := ratB_len i4
    exact ⟨hlt, i4, by omega, by omega, k + 1, hlt, by omega, (catB_step dQ spB hlt).symm, wrap_small (by omega) (by omega)⟩
  · have c4 := c3 k
    refine ⟨by omega, f3, by omega, ?_⟩
    rw [catB_all _ hge]
    simp [rowB])
theorem k_rowtext : SoundC Tryd.prog K_rowtext.1 K_rowtext.2 := sound_ofW hm (CtxOK.nil.and k_ratText) (fun (x : Pl.Rw) => A_rowtext x) (by kernel_rfl) fun (x : Pl.Rw) hb => g_rowtext x hb
end Cg

/-
  The codes' contracts: texts that a builder gathers. No condition.
-/
set_option linter.unusedVariables false
set_option linter.unusedSimpArgs false
set_option maxRecDepth 100000
namespace Cg
open Go Go.Proofs Go.RowKit Pl
theorem isB_ext {T e : TypeId} {B b : Nat} {bs : List Value} {w w' : World} (h : Lib.IsBuilder T e B b bs w) (hx : Ext w w') : Lib.IsBuilder T e B b bs w' := by
  have go : ∀ p, Lib.BuilderAt T e B b p bs w → Lib.BuilderAt T e B b p bs w' := fun p ⟨hB, v, hb, hown, hne⟩ => by
    refine ⟨hB, v, ?_, ?_, hne⟩
    · rw [hx.block b (Array.getElem?_eq_some_iff.1 hb).1]; exact hb
    · refine ⟨hown.1, ?_⟩
      rcases hown.2 with hn | ⟨g, cap, cur, rfl, h1, h2, rest⟩
      · exact .inl hn
      · exact .inr ⟨g, cap, cur, rfl, h1, by rw [hx.block g (Array.getElem?_eq_some_iff.1 h2).1]; exact h2, rest⟩
  rcases h with h | h
  · exact .inl (go _ h)
  · exact .inr (go _ h)
theorem Below.gl {S : Nat → Prop} {w w' : World} {B : Nat} (h : Gl S w) (hin : ∀ b, S b → b < B) (hb : Below B w w') : Gl S w' := h.mono (fun _ h => h) fun b hs => hb.block b (hin b hs)
theorem Below.rel {S : Nat → Prop} {w w' : World} {B : Nat} {a : AV} {y : Value} (h : RelI S w a y) (hin : ∀ b, S b → b < B) (hb : Below B w w') : RelI S w' a y := RelI_mono (fun _ h => h) (fun b hs => hb.block b (hin b hs)) a y h
theorem PureAt.text {f : FuncId} {args : List AV} {b : ByteArray} (h : PureAt Tryd.prog f args (st b)) {S : Nat → Prop} {W : World} {vals : List Value} (hin : ∀ b, S b → b < W.heap.size) (hg : Gl S W) (hr : RelL S mu0 W args vals) :
    Calls Tryd.prog f vals.toArray W fun e W' => e = .returned (.string b) ∧ Ext W W' :=
  (h S W vals hin hg hr).mono fun e W' he => by
    obtain ⟨y, S', rfl, h1, _, _, _, h5⟩ := he
    exact ⟨by rw [show y = .string b from h5], h1⟩
theorem PureAt.bool {f : FuncId} {args : List AV} {b : Bool} (h : PureAt Tryd.prog f args (bl b)) {S : Nat → Prop} {W : World} {vals : List Value} (hin : ∀ b, S b → b < W.heap.size) (hg : Gl S W) (hr : RelL S mu0 W args vals) :
    Calls Tryd.prog f vals.toArray W fun e W' => e = .returned (.bool b) ∧ Ext W W' :=
  (h S W vals hin hg hr).mono fun e W' he => by
    obtain ⟨y, S', rfl, h1, _, _, _, h5⟩ := he
    exact ⟨by rw [show y = .bool b from h5], h1⟩
theorem Below.ext {w w' : World} (h : Below w.heap.size w w') : Ext w w' := ⟨h.os, h.tape, h.output, h.size, h.block⟩
theorem Ext.alloc (w : World) (o : Obj) : Ext w (w.alloc o) := Below.ext ((Below.refl _ w).alloc (Nat.le_refl _) o)
theorem Ext.bel {w w' : World} {B : Nat} (h : Ext w w') (hB : B ≤ w.heap.size) : Below B w w' := ⟨h.os, h.tape, h.output, h.size, fun b hb => h.block b (Nat.lt_of_lt_of_le hb hB)⟩
set_option maxHeartbeats 1000000 in
theorem w_modelText (s : Mdl) (hso : mRight s = true) (S : Nat → Prop) (w : World) (v : Value) (hin : ∀ b, S b → b < w.heap.size) (hgl : Gl S w) (hr : RelI S w (mrows s) v) :
    Calls Tryd.prog 78 #[.agg #[v]] w fun e w' => e = .returned (.string (mkB (modelB s))) ∧ Ext w w' := by
  have hr0 := hr
  obtain ⟨a, cap, rfl, hcap, hc⟩ := hr
  have hx01 : Ext w (w.alloc (.cells #[.slice a s.length cap] 75)) := Ext.alloc _ _
  have hlt : w.heap.size < (w.alloc (.cells #[.slice a s.length cap] 75)).heap.size := (Array.getElem?_eq_some_iff.1 (heap_alloc_new w (.cells #[.slice a s.length cap] 75))).1
  have hbox : ∀ o, ((w.alloc (.cells #[.slice a s.length cap] 75)).alloc o).cell? ⟨w.heap.size, 0, none⟩ = some (.slice a s.length cap) := fun o => by
    unfold World.cell?
    rw [heap_alloc_old (w.alloc (.cells #[.slice a s.length cap] 75)) o hlt, heap_alloc_new]
    rfl
  have hB0 : w.heap.size ≤ (w.alloc (.cells #[.slice a s.length cap] 75)).heap.size := hx01.size
  go_enter Tryd.func78, Tryd.ntmps78
  have hsz0 : (w.alloc (.cells #[.slice a s.length cap] 75)).heap.size = w.heap.size + 1 := Array.size_push _
  go_wp2
  go_loopw [9] (fun v9 wr => ∃ k : Nat, v9 = .int .i64 (k : Int) ∧ k ≤ s.length ∧ Lib.IsBuilder 107 5 (w.heap.size + 1) (w.heap.size + 1) (Lib.byteCells (modelB (s.take k))) wr ∧ Below (w.heap.size + 1) (w.alloc (.cells #[.slice a s.length cap] 75)) wr) (fun v9 wr => match v9 with | .int _ k => s.length - k.toNat | _ => 0)
  case atStart =>
    refine ⟨0, rfl, Nat.zero_le _, by have := Lib.fresh_isBuilder 107 5 (w.alloc (.cells #[.slice a s.length cap] 75)); rw [hsz0] at this; exact this, (Below.refl _ (w.alloc (.cells #[.slice a s.length cap] 75))).alloc (by rw [hsz0]; exact Nat.le_refl _) _⟩
  case round =>
    obtain ⟨k, rfl, hk, hI, hbw⟩ := hrel
    have hB1 : w.heap.size + 1 ≤ wr.heap.size := Nat.le_trans (Nat.le_of_eq hsz0.symm) hbw.size
    by_cases hp : k < s.length
    · obtain ⟨b, off, rfl, hb, c, T, fr, hh, hel⟩ := hc.resolve_left (by omega)
      obtain ⟨x0, hx00, hr0'⟩ := hel k hp 0 (by omega)
      obtain ⟨x1, hx11, hr1'⟩ := hel k hp 1 (by omega)
      obtain ⟨x2, hx22, hr2'⟩ := hel k hp 2 (by omega)
      obtain ⟨x3, hx33, hr3'⟩ := hel k hp 3 (by omega)
      have hcw : ∀ j x, c[off + k * 4 + j]? = some x → wr.cell? ⟨b, off + k * 4 + j, none⟩ = some x := fun j x hx => by
        unfold World.cell?
        rw [hbw.block b (Nat.lt_succ_of_lt (hin b hb)), hx01.block b (hin b hb), hh]
        exact hx
      have hc0 := hcw 0 x0 hx00
      have hc1 := hcw 1 x1 hx11
      have hc2 := hcw 2 x2 hx22
      have hc3 := hcw 3 x3 hx33
      rw [Nat.add_zero] at hc0
      have hy : rowOk (s.getD k dR) = true := (model_facts hso).2 _ (getD_mem dR hp)
      have hlb := modelB_len hso k
      have hl40 := (model_facts hso).1
      have e : modelB (s.take (k + 1)) = modelB (s.take k) ++ (rowB (s.getD k dR) ++ [10]) := catB_step dR lineR hp
      have hsb := rowB_len hy
      have hw64 : wrap64 ((k : Int) + 1) = (k : Int) + 1 := (by unfold wrap64; omega)
      obtain ⟨y, hyy⟩ : ∃ y, y = s.getD k dR := ⟨_, rfl⟩
      rw [← hyy] at hy e hsb hr0' hr1' hr2' hr3'
      have q0 : x0 = .string y.1 := hr0'.1
      have q2 : x2 = .int .i64 y.2.2.1 := hr2'.1
      have q3 : x3 = .int .i64 y.2.2.2 := hr3'.1
      have hr1'' : RelI S w (rats y.2.1) x1 := hr1'
      obtain ⟨a1, cap1, q1, -⟩ := hr1'
      subst q0; subst q1; subst q2; subst q3
      have hbw0 : Below w.heap.size w wr := ⟨hbw.os.trans hx01.os, hbw.tape.trans hx01.tape, hbw.output.trans hx01.output, Nat.le_trans hx01.size hbw.size, fun b hb => (hbw.block b (Nat.lt_succ_of_lt hb)).trans (hx01.block b hb)⟩
      obtain ⟨WA, hWA⟩ : ∃ WA, WA = wr.alloc (.cells #[.string y.1, .slice a1 y.2.1.length cap1, .int .i64 y.2.2.1, .int .i64 y.2.2.2] 120) := ⟨_, rfl⟩
      have hxA : Ext wr WA := by rw [hWA]; exact Ext.alloc _ _
      have hbA : Below w.heap.size w WA := hbw0.trans (hxA.bel hbw0.size)
      have hcall : Calls Tryd.prog 113 #[.agg #[.string y.1, .slice a1 y.2.1.length cap1, .int .i64 y.2.2.1, .int .i64 y.2.2.2]] WA fun e W' => e = .returned (.string (mkB (rowB y))) ∧ Ext WA W' :=
        PureAt.text (k_rowtext.2 y hy) (vals := [.agg #[.string y.1, .slice a1 y.2.1.length cap1, .int .i64 y.2.2.1, .int .i64 y.2.2.2]]) (fun b hs => Nat.lt_of_lt_of_le (hin b hs) hbA.size) (Below.gl hgl hin hbA)
          ⟨_, [], rfl, ⟨_, rfl, _, _, rfl, rfl, _, _, rfl, Below.rel hr1'' hin hbA, _, _, rfl, rfl, _, [], rfl, rfl, rfl⟩, rfl⟩
      rw [hWA] at hcall hxA
      obtain ⟨tx, htx⟩ : ∃ tx, tx = mkB (rowB y) := ⟨_, rfl⟩
      rw [← htx] at hcall
      have hsz1 : tx.size ≤ 136 := by rw [htx]; exact hsb
      have hsz2 : ¬ tx.size + ByteArray.size ⟨#[10]⟩ > 9223372036854775807 := by
        show ¬ tx.size + 1 > _
        omega
      have hsz3 : (Lib.byteCells (modelB (s.take k))).length + (tx ++ ⟨#[10]⟩).size ≤ 140737488355328 := by
        rw [Lib.byteCells_length, ByteArray.size_append]
        show _ + (tx.size + 1) ≤ _
        omega
      have e2 : modelB (s.take (k + 1)) = modelB (s.take k) ++ (tx ++ ⟨#[10]⟩ : ByteArray).data.toList := by rw [e, htx, lit1, bapp]; rfl
      clear hel hr0' hr2' hcw hx00 hx11 hx22 hx33 hr3' hyy e htx hsb hr1'' hbA hWA hc hr0 hy
      go_wp2_with (go_at_call 113; refine hcall.mono ?_)
      rintro e W2 ⟨rfl, hx2⟩
      have hx2' : Ext wr W2 := hxA.trans hx2
      have hb2 : Below (w.heap.size + 1) (w.alloc (.cells #[.slice (some ⟨b, off, none⟩) s.length cap] 75)) W2 := hbw.trans (hx2'.bel hB1)
      go_wp2_with (go_at_call 69; refine (Tryd.Builder_WriteString (w.heap.size + 1) (w.heap.size + 1) _ _ W2 (isB_ext hI hx2') hsz3 (Nat.le_trans (Nat.le_of_eq hsz0.symm) hb2.size)).mono ?_)
      rintro e W3 ⟨rfl, hB3, hb3⟩
      go_wp2
      go_roundw
      case rel =>
        refine ⟨k + 1, rfl, hp, ?_, hb2.trans hb3⟩
        rw [Lib.strCells_eq, ← Lib.byteCells_append, ← e2] at hB3
        exact .inr hB3
      case measure =>
        show s.length - ((k : Int) + 1).toNat < s.length - (k : Int).toNat
        omega
    · have hkl : k = s.length := by omega
      subst hkl
      rw [List.take_length] at hI
      go_wp2_with (go_at_call 71; refine (Tryd.Builder_String_any (w.heap.size + 1) (w.heap.size + 1) (modelB s) wr hI hB1).mono ?_)
      rintro e W2 ⟨rfl, hb2⟩
      go_wp2
      go_ret
      exact ⟨rfl, hx01.trans (Below.ext (by rw [hsz0]; exact hbw.trans hb2))⟩
theorem k_modelText : SoundC Tryd.prog K_modelText.1 K_modelText.2 := ⟨callable_of (by kernel_rfl), fun x hx S w vals hin hgl hrel => by
  obtain ⟨y0, r0, rfl, ha, hc⟩ := hrel
  cases hc
  obtain ⟨vs, rfl, y1, r1, rfl, ha, hc⟩ := ha
  cases hc
  exact (w_modelText x hx S w y1 hin hgl ha).mono fun e w' ⟨he, hw⟩ => ⟨_, S, he, hw, fun _ h => h, fun _ h => .inl h, fun b hb => Nat.lt_of_lt_of_le (hin b hb) hw.size, rfl⟩⟩
end Cg

/-
  The codes' contracts: laws on texts. No condition.
-/
set_option linter.unusedVariables false
set_option linter.unusedSimpArgs false
set_option maxRecDepth 100000
namespace Cg
open Go Go.Proofs Pl
set_option maxHeartbeats 8000000 in
theorem g_iModelText (x : Pl.Mdl) (h1 : SmM x) : GoalW Tryd.prog [K_iModel, K_modelText] ([]) K_iModelText.1 K_iModelText.2 (x) := GoalW.of (vc_iModelText x) (by
  simp (maxSteps := 2000000) [-List.getD_eq_getElem?_getD, -List.mem_cons, -Bool.forall_bool, -Bool.exists_bool, and_assoc, peta, tl_inj, ex_1, ex_2, ex_3, ex_4, ex_5, ex_6, ex_7, ex_8, ex_9, ey_2, ey_3, ey_4, ey_5, ey_6, ey_7, ey_8, ey_9]
  exact ⟨h1, fun h => (tx_no h).symm, fun h => ⟨h, (tx_yes h).symm⟩⟩)
theorem k_iModelText : SoundC Tryd.prog K_iModelText.1 K_iModelText.2 := sound_ofW hm ((CtxOK.nil.and k_modelText).and k_iModel) (fun (x : Pl.Mdl) => []) (by kernel_rfl) fun (x : Pl.Mdl) hb => g_iModelText x hb
set_option maxHeartbeats 8000000 in
theorem g_xModelText (x : Pl.Mdl) (h1 : MlM x) : GoalW Tryd.prog [K_szModel, K_toModel, K_sModelText, K_iModelText, K_eqModel] ([]) K_xModelText.1 K_xModelText.2 (x) := GoalW.of (vc_xModelText x) (by
  simp (maxSteps := 2000000) [-List.getD_eq_getElem?_getD, -List.mem_cons, -Bool.forall_bool, -Bool.exists_bool, and_assoc, peta, tl_inj, ex_1, ex_2, ex_3, ex_4, ex_5, ex_6, ex_7, ex_8, ex_9, ey_2, ey_3, ey_4, ey_5, ey_6, ey_7, ey_8, ey_9]
  exact ⟨h1.1, fun a b c d h => h1.2 _ h, fun h => by have := lim_nonneg h; omega⟩)
theorem k_xModelText : SoundC Tryd.prog K_xModelText.1 K_xModelText.2 := sound_ofW hm (((((CtxOK.nil.and k_eqModel).and k_iModelText).and k_sModelText).and k_toModel).and k_szModel) (fun (x : Pl.Mdl) => []) (by kernel_rfl) fun (x : Pl.Mdl) hb => g_xModelText x hb
end Cg

/-
  The listed tables: what the row's condition gives the machine. No condition.
-/
set_option linter.unusedVariables false
namespace Go.Proofs.YtkajadgfafpncaaDoor
open Go
def laidL : List (String × DataW Unit) := [("math/bits.deBruijn32tab", Rows.laid_math_bits_deBruijn32tab), ("math/bits.deBruijn64tab", Rows.laid_math_bits_deBruijn64tab), ("internal/strconv.uint64pow10", Rows.laid_internal_strconv_uint64pow10)]
theorem door_met (os : Os) (args : Array Value) : laidMetH Tryd.prog laidL ((World.doorLaid Tryd.prog 24 os).forCall (fun _ _ => 0) ⟨#[], args, []⟩).memory :=
  laidMetH_of_parts3 (fuel := 8) (laidMet_of_run' 8 (by kernel_rfl) (by kernel_rfl)) (by kernel_rfl) (by kernel_rfl)
theorem tab_laid {W : World} (h : laidMetH Tryd.prog laidL W) : Go.Lib.TabIs Tryd.prog W "internal/strconv.uint64pow10" .u64 Go.Lib.pow10Tab := by
  rw [MakeChecks.laidMetH_plain _ _ _ (by kernel_rfl)] at h
  have h2 := laidMet.filter (fun x => x.1 == "internal/strconv.uint64pow10") h
  have h3 : laidMet Tryd.prog (("internal/strconv.uint64pow10", Go.Lib.tabData .u64 Go.Lib.pow10Tab) :: []) W := by
    have e : (laidL.filter fun x => x.1 == "internal/strconv.uint64pow10") = ("internal/strconv.uint64pow10", Go.Lib.tabData .u64 Go.Lib.pow10Tab) :: [] := by rfl
    rw [e] at h2
    exact h2
  exact Go.Lib.tabIs_of_head (show Tryd.prog.globalNamed "internal/strconv.uint64pow10" = some 0 by kernel_rfl) (t := 189) (by kernel_rfl) Tryd.underlying189 Tryd.underlying182 (by kernel_rfl) (by kernel_rfl) h3
theorem gl_laid {W : World} (h : laidMetH Tryd.prog laidL W) : Cg.Gl (fun b => b < W.heap.size) W := fun g hg => by
  rw [show Cg.globs = [(0, fun c => c = ((List.range 20).map fun i => Value.int .u64 ((10 ^ i : Nat) : Int)).toArray)] from rfl, List.mem_singleton] at hg
  subst hg
  have ht := tab_laid h
  unfold Go.Lib.TabIs World.var? at ht
  rw [show Tryd.prog.globalNamed "internal/strconv.uint64pow10" = some 0 by kernel_rfl, Option.bind_some] at ht
  dsimp only
  split at ht
  · rename_i c T fr hc
    refine ⟨?_, c, T, fr, hc, ?_⟩
    · exact (Array.getElem?_eq_some_iff.1 hc).1
    · rw [Option.some.inj ht]
      unfold Go.Lib.pow10Tab
      rw [List.map_map]
      rfl
  · cases ht
end Go.Proofs.YtkajadgfafpncaaDoor
