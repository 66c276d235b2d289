/-
  What the law leans on, part 3. No condition.
-/
import Derived.Lib.Split
import Derived.Lib.AtoiAllCases
import Derived.Test.YtibghpfojnhfaaaGreatDoorProg
import Derived.Test.YtibghpfojnhfaaaGreatDoorFnLitTextB1
import Derived.Test.YtibghpfojnhfaaaGreatDoorFnLitTextB2
/-
  The codes' contracts: texts. No condition.
-/
set_option linter.unusedVariables false
set_option linter.unusedSimpArgs false
set_option maxRecDepth 100000
namespace Pl
open Go Cg
theorem bapp (a b : List UInt8) : mkB a ++ mkB b = mkB (a ++ b) := by
  apply ByteArray.ext
  rw [ByteArray.data_append]
  apply Array.toList_inj.1
  rw [Array.toList_append]
  rfl
theorem lit0 : ByteArray.mk #[] = mkB [] := rfl
theorem lit1 (a : UInt8) : ByteArray.mk #[a] = mkB [a] := rfl
theorem lit2 (a b : UInt8) : ByteArray.mk #[a, b] = mkB [a, b] := rfl
theorem lit3 (a b c : UInt8) : ByteArray.mk #[a, b, c] = mkB [a, b, c] := rfl
theorem lit4 (a b c d : UInt8) : ByteArray.mk #[a, b, c, d] = mkB [a, b, c, d] := rfl
theorem dec_eq (n : Int) : dec n = mkB (itoa n) := rfl
theorem textT_eq (t : Tm) : textT t = mkB (textB t) := rfl
theorem byteS_eq (x : Int) : byteS x = mkB [UInt8.ofNat x.toNat] := rfl
theorem mkB_inj {a b : List UInt8} : mkB a = mkB b ↔ a = b := ⟨fun h => by
  have : (mkB a).data.toList = (mkB b).data.toList := by rw [h]
  exact this, fun h => by rw [h]⟩
theorem tx_no {ok : Bool} {l : List UInt8} (h : ok = false) : tx ok l = mkB [] := by unfold tx; rw [if_neg (by rw [h]; decide)]; rfl
theorem tx_yes {ok : Bool} {l : List UInt8} (h : ok = true) : tx ok l = mkB l := by unfold tx; rw [if_pos h]
theorem digits_len : ∀ (k u : Nat), u < 10 ^ (k + 1) → (Go.Lib.decDigits u).length ≤ k + 1
  | 0, u, h => by rw [Go.Lib.decDigits, dif_pos (by simpa using h)]; simp
  | k + 1, u, h => by
    rw [Go.Lib.decDigits]
    split
    · simp
    · have := digits_len k (u / 10) (by rw [Nat.pow_succ] at h; omega)
      simp; omega
theorem itoa_len {n : Int} (h : In64 n) : (itoa n).length ≤ 21 := by
  obtain ⟨h1, h2⟩ := h
  unfold itoa Go.Lib.itoa
  split
  · have := digits_len 19 n.natAbs (by omega)
    simp only [List.length_cons]; omega
  · have := digits_len 19 n.toNat (by omega)
    omega
theorem numOk_times : ∀ {nums : List Tm} {times : List Int} {p : Option Tm}, nums.length = times.length → numOk p nums times = true → ∀ n ∈ times, timeOk n = true
  | [], [], _, _, _, t, h => by cases h
  | [], _ :: _, _, hl, _, _, _ => by simp at hl
  | x :: nums, [], _, hl, _, _, _ => by simp at hl
  | x :: nums, n :: times, p, hl, h, t, ht => by
    simp only [numOk, Bool.and_eq_true] at h
    rcases List.mem_cons.1 ht with e | e
    · subst e; exact h.1.1.2
    · exact numOk_times (by simpa using hl) h.2 t e
theorem sum_facts {x : Atm} (h0 : ¬ x.1 = 1) (h : atomRight x = true) : x.2.2.2.1.length = x.2.2.2.2.1.length ∧ x.2.2.2.1.length ≤ 4 ∧ In64 x.2.2.2.2.2.1 ∧ ∀ n ∈ x.2.2.2.2.1, In64 n := by
  have e : sumRight x = true := by
    unfold atomRight at h
    split at h
    · exact h
    · rw [decide_eq_false h0] at h; cases h
  unfold sumRight at e
  rw [Bool.and_eq_true] at e
  obtain ⟨kind, a, b, nums, times, bound, strict⟩ := x
  have q := (head_iff kind a b nums times bound strict).1 e.1
  refine ⟨q.2.2.1, q.2.2.2.2.1, ⟨by dsimp only; omega, by dsimp only; omega⟩, fun n hn => ?_⟩
  have := timeOk_iff.1 (numOk_times q.2.2.1 e.2 n hn)
  exact ⟨by omega, by omega⟩
theorem numsB_step : ∀ {ts : List Tm} {ns : List Int} {k : Nat}, k < ts.length → k < ns.length → numsB (ts.take (k + 1)) (ns.take (k + 1)) = numsB (ts.take k) (ns.take k) ++ numB (ts.getD k dT) (ns.getD k 0)
  | [], _, _, h, _ => by simp at h
  | _ :: _, [], _, _, h => by simp at h
  | t :: ts, n :: ns, 0, _, _ => by simp [numsB]
  | t :: ts, n :: ns, k + 1, h1, h2 => by
    have := numsB_step (ts := ts) (ns := ns) (k := k) (by simpa using h1) (by simpa using h2)
    simp only [List.take_succ_cons, numsB, List.getD_cons_succ, this, List.append_assoc]
theorem numB_len {t : Tm} {n : Int} (h1 : SmT t) (h2 : In64 n) : (numB t n).length ≤ 2097175 := by
  have := textB_len t
  have := itoa_len h2
  have h1 : costT t ≤ 1048576 := h1
  unfold numB
  simp only [List.length_append, List.length_singleton]
  omega
theorem numsB_len : ∀ {ts : List Tm} {ns : List Int}, (∀ t ∈ ts, SmT t) → (∀ n ∈ ns, In64 n) → (numsB ts ns).length ≤ ts.length * 2097175
  | [], _, _, _ => by simp [numsB]
  | _ :: _, [], _, _ => by simp [numsB]
  | t :: ts, n :: ns, h1, h2 => by
    have h3 := numB_len (h1 t List.mem_cons_self) (h2 n List.mem_cons_self)
    have h4 := numsB_len (ts := ts) (ns := ns) (fun x hx => h1 x (List.mem_cons_of_mem _ hx)) fun x hx => h2 x (List.mem_cons_of_mem _ hx)
    simp only [numsB, List.length_append, List.length_cons, Nat.succ_mul]
    omega
theorem numsB_take {ts : List Tm} {ns : List Int} (h0 : ts.length ≤ 4) (h1 : ∀ t ∈ ts, SmT t) (h2 : ∀ n ∈ ns, In64 n) (k : Nat) : (numsB (ts.take k) (ns.take k)).length ≤ 8388700 := by
  have h := numsB_len (ts := ts.take k) (ns := ns.take k) (fun t h => h1 t (List.mem_of_mem_take h)) fun n h => h2 n (List.mem_of_mem_take h)
  have h3 : (ts.take k).length ≤ 4 := by simp; omega
  have := Nat.mul_le_mul_right 2097175 h3
  omega
theorem atomB_eq {x : Atm} (h : x.1 = 1) : atomB x = textB (.mk x.2.1.1 x.2.1.2) ++ [61] ++ textB (.mk x.2.2.1.1 x.2.2.1.2) := if_pos h
theorem atomB_sum {x : Atm} (h : ¬ x.1 = 1) : atomB x = numsB x.2.2.2.1 x.2.2.2.2.1 ++ (if x.2.2.2.2.2.2 = true then [60, 32] else [60, 61, 32]) ++ itoa x.2.2.2.2.2.1 := if_neg h
theorem atomB_len {x : Atm} (hs : SmA x) (h : atomRight x = true) : (atomB x).length ≤ 8388800 := by
  obtain ⟨q1, q2, q3, q4⟩ := SmA.parts hs
  by_cases h0 : x.1 = 1
  · rw [atomB_eq h0]
    have := textB_len (.mk x.2.1.1 x.2.1.2)
    have := textB_len (.mk x.2.2.1.1 x.2.2.1.2)
    have : costT (.mk x.2.1.1 x.2.1.2) ≤ 1048576 := q1
    have : costT (.mk x.2.2.1.1 x.2.2.1.2) ≤ 1048576 := q2
    simp only [List.length_append, List.length_singleton]
    omega
  · rw [atomB_sum h0]
    obtain ⟨s1, s2, s3, s4⟩ := sum_facts h0 h
    have := itoa_len s3
    have t := numsB_take s2 (fun t => q3.mem) s4 x.2.2.2.1.length
    rw [List.take_length, s1, List.take_length] at t
    simp only [List.length_append]
    split <;> simp only [List.length_cons, List.length_nil] <;> omega
theorem atomB_ne {x : Atm} : atomB x ≠ [] := by
  by_cases h0 : x.1 = 1
  · rw [atomB_eq h0]; simp
  · rw [atomB_sum h0]; split <;> simp
end Pl
namespace Cg
open Go Go.Proofs Pl
theorem Ext.grow (w : World) (k : Nat) (os : Array Obj) : Ext w (Go.Sort.grow (w.drewN k) os) := ⟨rfl, rfl, rfl, by show _ ≤ (w.heap ++ os).size; simp, fun b hb => by show (w.heap ++ os)[b]? = _; rw [Array.getElem?_append_left hb]⟩
theorem tab_pow {S : Nat → Prop} {w : World} (h : Gl S w) : Go.Lib.TabIs Tryz.prog w "internal/strconv.uint64pow10" .u64 Go.Lib.pow10Tab := by
  obtain ⟨h1, c, T, fr, h2, h3⟩ := h _ List.mem_cons_self
  unfold Go.Lib.TabIs World.var?
  rw [show Tryz.prog.globalNamed "internal/strconv.uint64pow10" = some 3 by kernel_rfl]
  have h2 : w.heap[(3 : Nat)]? = some (.cells c T fr) := h2
  have h3 : c = ((List.range 20).map fun i => Value.int .u64 ((10 ^ i : Nat) : Int)).toArray := h3
  simp only [Option.bind_some, h2, h3]
  unfold Go.Lib.pow10Tab
  rw [List.map_map]
  rfl
theorem k_Itoa : SoundC Tryz.prog K_Itoa.1 K_Itoa.2 := ⟨callable_of (by kernel_rfl), fun x hx S w vals hin hgl hrel => by
  obtain ⟨y0, r0, rfl, ha, hc⟩ := hrel
  cases hc
  have ha : y0 = .int .i64 x := ha
  subst ha
  exact (Tryz.strconv_Itoa x (Int.le_trans (by decide) hx.1) hx.2 w (tab_pow hgl)).mono fun e w' ⟨he, k, os, hw⟩ => by
    subst hw
    exact ⟨_, S, he, Ext.grow w k os, fun _ h => h, fun _ h => .inl h, fun b hb => Nat.lt_of_lt_of_le (hin b hb) (Ext.grow w k os).size, rfl⟩⟩
theorem digit_eq {m : Nat} (h : m < 10) : UInt8.ofNat (IntKind.u8.wrap (IntKind.i64.wrap (48 + (m : Int)))).toNat = UInt8.ofNat (48 + m) := by
  rw [wrap_small (by omega) (by omega)]
  congr 1
  have : IntKind.u8.wrap (48 + (m : Int)) = 48 + (m : Int) := by
    show (48 + (m : Int)) % 256 = _
    omega
  rw [this]; omega
theorem dec_step {m : Nat} (h : 9 < m) : itoa (m : Int) = itoa ((m / 10 : Nat) : Int) ++ [UInt8.ofNat (48 + m % 10)] := by
  unfold itoa Go.Lib.itoa
  rw [if_neg (by omega), if_neg (by omega)]
  show Go.Lib.decDigits m = Go.Lib.decDigits (m / 10) ++ _
  rw [Go.Lib.decDigits, dif_neg (by omega)]
theorem dec_last {m : Nat} (h : m < 10) : itoa (m : Int) = [UInt8.ofNat (48 + m)] := by
  unfold itoa Go.Lib.itoa
  rw [if_neg (by omega)]
  show Go.Lib.decDigits m = _
  rw [Go.Lib.decDigits, dif_pos h]
set_option maxHeartbeats 8000000 in
theorem g_l16Dec (n : Nat) (x : Int) (h1 : In64 x) (h2 : (if x < 0 then 1 else 0) < n + 1) : GoalW Tryz.prog [K_l16Dec n] (A_l16Dec x) (K_l16Dec (n + 1)).1 (K_l16Dec (n + 1)).2 x := GoalW.of (vc_l16Dec n x) (by
  simp (maxSteps := 2000000) [-List.getD_eq_getElem?_getD, -List.mem_cons, -Bool.forall_bool, -Bool.exists_bool, and_assoc, peta, tl_inj, ex_1, ex_2, ex_3, ex_4, ex_5, ex_6, ex_7, ex_8, ex_9, ey_2, ey_3, ey_4, ey_5, ey_6, ey_7, ey_8, ey_9]
  obtain ⟨b1, b2⟩ := h1
  refine ⟨fun hn => by omega, fun hn => ⟨fun h0 => ?_, fun h0 => ⟨⟨x.toNat, ⟨by omega, by omega⟩, h0, ?_, by omega⟩, fun a b ha _ he => ⟨fun h9 => ?_, fun h9 => ?_⟩⟩⟩⟩
  · have e : IntKind.i64.wrap (-x) = -x := wrap_small (by omega) (by omega)
    have i1 := itoa_len (n := -x) ⟨by omega, by omega⟩
    rw [e]
    rw [if_pos h0] at h2
    refine ⟨⟨by omega, by omega⟩, by rw [if_neg (by omega)]; omega, ?_, ?_⟩
    · show 1 + ((itoa (-x)).length : Int) ≤ _
      omega
    · rw [lit1, dec_eq, bapp]
      unfold dec itoa Go.Lib.itoa
      rw [if_pos h0, if_neg (by omega), show (-x).toNat = x.natAbs by omega]
      rfl
  · rw [lit0, dec_eq, dec_eq, bapp, List.append_nil, Int.toNat_of_nonneg h0]
  · have i1 := itoa_len (n := x) ⟨b1, b2⟩
    have hz : (dec x).size = (dec (a : Int)).size + b.size := by rw [he]; simp
    have hz : (itoa x).length = (itoa (a : Int)).length + b.size := hz
    rw [show ((a : Int)).tmod 10 = ((a % 10 : Nat) : Int) from rfl, digit_eq (Nat.mod_lt _ (by omega))]
    refine ⟨?_, a / 10, ⟨by omega, by have := ha.2; omega⟩, h0, ?_, by omega, ?_⟩
    · show (1 : Int) + b.size ≤ _
      omega
    · rw [he, dec_eq, dec_step (by omega), lit1, ← bapp, ByteArray.append_assoc]; rfl
    · rw [wrap_small (by have := ha.2; omega) (by have := ha.2; omega)]; rfl
  · have i1 := itoa_len (n := x) ⟨b1, b2⟩
    have hz : (dec x).size = (dec (a : Int)).size + b.size := by rw [he]; simp
    have hz : (itoa x).length = (itoa (a : Int)).length + b.size := hz
    rw [digit_eq (by omega)]
    refine ⟨?_, ?_⟩
    · show (1 : Int) + b.size ≤ _
      omega
    · rw [he, dec_eq, dec_last (by omega), lit1])
theorem k_l16Dec (n : Nat) : SoundC Tryz.prog (K_l16Dec n).1 (K_l16Dec n).2 := by
  induction n with
  | zero => exact sound_of hm CtxOK.nil (fun _ => []) (by kernel_rfl) fun x h => absurd h.2 (Nat.not_lt_zero _)
  | succ n ih => exact sound_ofW hm (CtxOK.nil.and (K := K_l16Dec n) ih) (fun (x : Int) => A_l16Dec x) (by kernel_rfl) fun (x : Int) hb => g_l16Dec n x hb.1 hb.2
theorem k_dec : SoundC Tryz.prog K_dec.1 K_dec.2 := SoundC.fam (fun (x : Int) => if x < 0 then 1 else 0) fun n => k_l16Dec n
set_option maxHeartbeats 8000000 in
theorem g_sign (x : Bool)  : GoalW Tryz.prog [] ([]) K_sign.1 K_sign.2 (x) := GoalW.of (vc_sign x) (by
  simp only [lit0, lit1, lit2, lit3, lit4, dec_eq, textT_eq, byteS_eq, bapp, mkB_size, mkB_inj]
  simp (maxSteps := 2000000) [-List.getD_eq_getElem?_getD, -List.mem_cons, -Bool.forall_bool, -Bool.exists_bool, and_assoc, peta, tl_inj, ex_1, ex_2, ex_3, ex_4, ex_5, ex_6, ex_7, ex_8, ex_9, ey_2, ey_3, ey_4, ey_5, ey_6, ey_7, ey_8, ey_9]
  exact ⟨fun h => by rw [h]; rfl, fun h => by rw [h]; rfl⟩)
theorem k_sign : SoundC Tryz.prog K_sign.1 K_sign.2 := sound_ofW hm CtxOK.nil (fun (x : Bool) => []) (by kernel_rfl) fun (x : Bool) hb => g_sign x 
set_option maxHeartbeats 8000000 in
theorem g_sAtomText (x : Pl.Atm) (h1 : SmA x) : GoalW Tryz.prog [K_l6Right, K_lText, K_dec] (A_sAtomText x) K_sAtomText.1 K_sAtomText.2 (x) := GoalW.of (vc_sAtomText x) (by
  simp only [lit0, lit1, lit2, lit3, lit4, dec_eq, textT_eq, byteS_eq, bapp, mkB_size, mkB_inj]
  simp (maxSteps := 2000000) [-List.getD_eq_getElem?_getD, -List.mem_cons, -Bool.forall_bool, -Bool.exists_bool, and_assoc, peta, tl_inj, ex_1, ex_2, ex_3, ex_4, ex_5, ex_6, ex_7, ex_8, ex_9, ey_2, ey_3, ey_4, ey_5, ey_6, ey_7, ey_8, ey_9]
  obtain ⟨q1, q2, q3, q4⟩ := SmA.parts h1
  have t1 := textB_len (.mk x.2.1.1 x.2.1.2)
  have t2 := textB_len (.mk x.2.2.1.1 x.2.2.1.2)
  have q1 : costT (.mk x.2.1.1 x.2.1.2) ≤ 1048576 := q1
  have q2 : costT (.mk x.2.2.1.1 x.2.2.1.2) ≤ 1048576 := q2
  refine ⟨h1, fun h => (tx_no h).symm, fun h2 => ?_⟩
  rw [tx_yes h2]
  simp only [mkB_inj]
  refine ⟨fun h0 => ⟨q1, by omega, q2, by omega, by rw [atomB_eq h0]; simp⟩, fun h0 => ?_⟩
  · have h0 : ¬ x.1 = 1 := h0
    obtain ⟨s1, s2, s3, s4⟩ := sum_facts h0 h2
    have i3 := itoa_len s3
    have t3 := fun k => numsB_take s2 (fun t => q3.mem) s4 k
    refine ⟨h0, h2, ⟨0, by omega, rfl, rfl⟩, fun k _ _ hk => ⟨fun hlt => ?_, fun hge => ?_⟩⟩
    · have t4 := t3 k
      have i4 := s4 _ (getD_mem 0 (l := x.2.2.2.2.1) (k := k) (by omega))
      have i5 := itoa_len i4
      have q5 : costT (x.2.2.2.1.getD k dT) ≤ 1048576 := q3.mem (getD_mem dT hlt)
      have t5 := textB_len (x.2.2.2.1.getD k dT)
      refine ⟨by omega, i4, by omega, by omega, hlt, q5, by omega, by omega, h0, h2, k + 1, hlt, by omega, ?_, wrap_small (by omega) (by omega)⟩
      rw [numsB_step hlt (by omega)]
      unfold numB
      simp
    · have t4 := t3 k
      refine ⟨fun hb => ⟨by omega, s3, by omega, ?_⟩, fun hb => ⟨by omega, s3, by omega, ?_⟩⟩
      · rw [atomB_sum h0, List.take_of_length_le hge, List.take_of_length_le (by omega), if_pos hb]; simp
      · rw [atomB_sum h0, List.take_of_length_le hge, List.take_of_length_le (by omega), if_neg (by rw [hb]; decide)]; simp)
theorem k_sAtomText : SoundC Tryz.prog K_sAtomText.1 K_sAtomText.2 := sound_ofW hm (((CtxOK.nil.and k_dec).and k_lText).and k_l6Right) (fun (x : Pl.Atm) => A_sAtomText x) (by kernel_rfl) fun (x : Pl.Atm) hb => g_sAtomText x hb
set_option maxHeartbeats 8000000 in
theorem g_atomText (x : Pl.Atm) (h1 : SmA x) (h2 : atomRight x = true) : GoalW Tryz.prog [K_tText, K_Itoa, K_sign] (A_atomText x) K_atomText.1 K_atomText.2 (x) := GoalW.of (vc_atomText x) (by
  simp only [lit0, lit1, lit2, lit3, lit4, dec_eq, textT_eq, byteS_eq, bapp, mkB_size, mkB_inj]
  simp (maxSteps := 2000000) [-List.getD_eq_getElem?_getD, -List.mem_cons, -Bool.forall_bool, -Bool.exists_bool, and_assoc, peta, tl_inj, ex_1, ex_2, ex_3, ex_4, ex_5, ex_6, ex_7, ex_8, ex_9, ey_2, ey_3, ey_4, ey_5, ey_6, ey_7, ey_8, ey_9]
  obtain ⟨q1, q2, q3, q4⟩ := SmA.parts h1
  have t1 := textB_len (.mk x.2.1.1 x.2.1.2)
  have t2 := textB_len (.mk x.2.2.1.1 x.2.2.1.2)
  have q1 : costT (.mk x.2.1.1 x.2.1.2) ≤ 1048576 := q1
  have q2 : costT (.mk x.2.2.1.1 x.2.2.1.2) ≤ 1048576 := q2
  refine ⟨fun h0 => ⟨q1, by omega, q2, by omega, by rw [atomB_eq h0]; simp⟩, fun h0 => ?_⟩
  · have h0 : ¬ x.1 = 1 := h0
    obtain ⟨s1, s2, s3, s4⟩ := sum_facts h0 h2
    have i3 := itoa_len s3
    have t3 := fun k => numsB_take s2 (fun t => q3.mem) s4 k
    have hsg : (signB x.2.2.2.2.2.2).length ≤ 2 := by unfold signB; split <;> simp
    refine ⟨h0, ⟨0, by omega, rfl, rfl⟩, fun k _ hk => ⟨fun hlt => ?_, fun hge => ?_⟩⟩
    · have t4 := t3 k
      have i4 := s4 _ (getD_mem 0 (l := x.2.2.2.2.1) (k := k) (by omega))
      have i5 := itoa_len i4
      have q5 : costT (x.2.2.2.1.getD k dT) ≤ 1048576 := q3.mem (getD_mem dT hlt)
      have t5 := textB_len (x.2.2.2.1.getD k dT)
      refine ⟨hlt, by omega, i4, by omega, q5, by omega, by omega, by omega, h0, k + 1, hlt, by omega, ?_, wrap_small (by omega) (by omega)⟩
      rw [numsB_step hlt (by omega)]
      unfold numB
      simp
    · have t4 := t3 k
      refine ⟨by omega, by omega, s3, by omega, ?_⟩
      rw [atomB_sum h0, List.take_of_length_le hge, List.take_of_length_le (by omega)]
      unfold signB
      split <;> simp_all)
theorem k_atomText : SoundC Tryz.prog K_atomText.1 K_atomText.2 := sound_ofW hm (((CtxOK.nil.and k_sign).and k_Itoa).and k_tText) (fun (x : Pl.Atm) => A_atomText x) (by kernel_rfl) fun (x : Pl.Atm) hb => g_atomText x hb.1 hb.2
set_option maxHeartbeats 8000000 in
theorem g_sLitText (x : Pl.Ltr) (h1 : SmA x.1) : GoalW Tryz.prog [K_sAtomText] ([]) K_sLitText.1 K_sLitText.2 (x) := GoalW.of (vc_sLitText x) (by
  simp only [lit0, lit1, lit2, lit3, lit4, dec_eq, textT_eq, byteS_eq, bapp, mkB_size, mkB_inj]
  simp (maxSteps := 2000000) [-List.getD_eq_getElem?_getD, -List.mem_cons, -Bool.forall_bool, -Bool.exists_bool, and_assoc, peta, tl_inj, ex_1, ex_2, ex_3, ex_4, ex_5, ex_6, ex_7, ex_8, ex_9, ey_2, ey_3, ey_4, ey_5, ey_6, ey_7, ey_8, ey_9]
  refine ⟨h1, fun hb => ⟨fun hn => ?_, fun hn => ?_⟩, fun hb => ?_⟩
  · cases h : atomRight x.1 with
    | false => exact absurd (tx_no h) hn
    | true =>
      have := atomB_len h1 h
      rw [tx_yes rfl, tx_yes rfl, bapp, mkB_size, mkB_inj]
      exact ⟨by omega, by unfold litB; rw [if_pos hb]⟩
  · cases h : atomRight x.1 with
    | false => rw [tx_no rfl, tx_no rfl]
    | true => rw [h, tx_yes rfl, mkB_inj] at hn; exact absurd hn atomB_ne
  · unfold litB; rw [if_neg (by rw [hb]; decide)])
theorem k_sLitText : SoundC Tryz.prog K_sLitText.1 K_sLitText.2 := sound_ofW hm (CtxOK.nil.and k_sAtomText) (fun (x : Pl.Ltr) => []) (by kernel_rfl) fun (x : Pl.Ltr) hb => g_sLitText x hb
set_option maxHeartbeats 8000000 in
theorem g_litText (x : Pl.Ltr) (h1 : SmA x.1) (h2 : atomRight x.1 = true) : GoalW Tryz.prog [K_atomText] ([]) K_litText.1 K_litText.2 (x) := GoalW.of (vc_litText x) (by
  simp only [lit0, lit1, lit2, lit3, lit4, dec_eq, textT_eq, byteS_eq, bapp, mkB_size, mkB_inj]
  simp (maxSteps := 2000000) [-List.getD_eq_getElem?_getD, -List.mem_cons, -Bool.forall_bool, -Bool.exists_bool, and_assoc, peta, tl_inj, ex_1, ex_2, ex_3, ex_4, ex_5, ex_6, ex_7, ex_8, ex_9, ey_2, ey_3, ey_4, ey_5, ey_6, ey_7, ey_8, ey_9]
  have := atomB_len h1 h2
  exact ⟨fun hb => ⟨h1, h2, by omega, by unfold litB; rw [if_pos hb]; rfl⟩, fun hb => ⟨h1, h2, by unfold litB; rw [if_neg (by rw [hb]; decide)]⟩⟩)
theorem k_litText : SoundC Tryz.prog K_litText.1 K_litText.2 := sound_ofW hm (CtxOK.nil.and k_atomText) (fun (x : Pl.Ltr) => []) (by kernel_rfl) fun (x : Pl.Ltr) hb => g_litText x hb.1 hb.2
set_option maxHeartbeats 8000000 in
theorem g_iLitText (x : Pl.Ltr) (h1 : SmA x.1) : GoalW Tryz.prog [K_Atomok, K_litText] ([]) K_iLitText.1 K_iLitText.2 (x) := GoalW.of (vc_iLitText x) (by
  simp only [lit0, lit1, lit2, lit3, lit4, dec_eq, textT_eq, byteS_eq, bapp, mkB_size, mkB_inj]
  simp (maxSteps := 2000000) [-List.getD_eq_getElem?_getD, -List.mem_cons, -Bool.forall_bool, -Bool.exists_bool, and_assoc, peta, tl_inj, ex_1, ex_2, ex_3, ex_4, ex_5, ex_6, ex_7, ex_8, ex_9, ey_2, ey_3, ey_4, ey_5, ey_6, ey_7, ey_8, ey_9]
  exact ⟨h1, fun h => (tx_no h).symm, fun h => ⟨h1, h, (tx_yes h).symm⟩⟩)
theorem k_iLitText : SoundC Tryz.prog K_iLitText.1 K_iLitText.2 := sound_ofW hm ((CtxOK.nil.and k_litText).and k_Atomok) (fun (x : Pl.Ltr) => []) (by kernel_rfl) fun (x : Pl.Ltr) hb => g_iLitText x hb
end Cg

/-
  A text is one thing's: no two right atoms have one text. No condition.
-/
set_option linter.unusedVariables false
set_option linter.unusedSimpArgs false
namespace Pl
open Go Cg
/-- Does a list open with a byte of a kind? -/
def opens (p : UInt8 → Bool) : List UInt8 → Bool
  | [] => false
  | c :: _ => p c
def dig (c : UInt8) : Bool := decide (48 ≤ c.toNat) && decide (c.toNat ≤ 57)
theorem split_all {p : UInt8 → Bool} : ∀ {a b r s : List UInt8}, a.all p = true → b.all p = true → opens p r = false → opens p s = false → a ++ r = b ++ s → a = b ∧ r = s
  | [], [], r, s, _, _, _, _, h => ⟨rfl, h⟩
  | [], y :: b, r, s, _, hb, hr, _, h => by
    simp only [List.nil_append, List.cons_append] at h
    subst h
    simp only [List.all_cons, Bool.and_eq_true] at hb
    simp [opens, hb.1] at hr
  | x :: a, [], r, s, ha, _, _, hs, h => by
    simp only [List.nil_append, List.cons_append] at h
    subst h
    simp only [List.all_cons, Bool.and_eq_true] at ha
    simp [opens, ha.1] at hs
  | x :: a, y :: b, r, s, ha, hb, hr, hs, h => by
    simp only [List.cons_append, List.cons.injEq] at h
    simp only [List.all_cons, Bool.and_eq_true] at ha hb
    obtain ⟨h1, h2⟩ := split_all ha.2 hb.2 hr hs h.2
    exact ⟨by rw [h.1, h1], h2⟩
theorem dig_of (d : Nat) (h : d < 10) : dig (UInt8.ofNat (48 + d)) = true := by
  have : d = 0 ∨ d = 1 ∨ d = 2 ∨ d = 3 ∨ d = 4 ∨ d = 5 ∨ d = 6 ∨ d = 7 ∨ d = 8 ∨ d = 9 := by omega
  rcases this with e | e | e | e | e | e | e | e | e | e <;> subst e <;> rfl
theorem dec_dig : ∀ (u : Nat), (Go.Lib.decDigits u).all dig = true := fun u => by
  induction u using Nat.strongRecOn with
  | ind u ih =>
    rw [Go.Lib.decDigits]
    split
    · rename_i h
      rw [List.all_cons, dig_of u h]; rfl
    · rename_i h
      rw [List.all_append, ih (u / 10) (by omega)]
      rw [List.all_cons, dig_of (u % 10) (Nat.mod_lt _ (by omega))]; rfl
def val (l : List UInt8) : Nat := l.foldl (fun a c => a * 10 + (c.toNat - 48)) 0
theorem val_dec (u : Nat) : val (Go.Lib.decDigits u) = u := by
  induction u using Nat.strongRecOn with
  | ind u ih =>
    rw [Go.Lib.decDigits]
    split
    · rename_i h
      show 0 * 10 + ((UInt8.ofNat (48 + u)).toNat - 48) = u
      have : (UInt8.ofNat (48 + u)).toNat = 48 + u := by rw [UInt8.toNat_ofNat']; omega
      rw [this]; omega
    · rename_i h
      unfold val
      rw [List.foldl_append]
      show (val (Go.Lib.decDigits (u / 10))) * 10 + ((UInt8.ofNat (48 + u % 10)).toNat - 48) = u
      have : (UInt8.ofNat (48 + u % 10)).toNat = 48 + u % 10 := by rw [UInt8.toNat_ofNat']; omega
      rw [ih (u / 10) (by omega), this]; omega
theorem dec_ne (u : Nat) : Go.Lib.decDigits u ≠ [] := by
  rw [Go.Lib.decDigits]
  split <;> simp
theorem dec_open (u : Nat) (r : List UInt8) : opens dig (Go.Lib.decDigits u ++ r) = true := by
  have h := dec_dig u
  cases e : Go.Lib.decDigits u with
  | nil => exact absurd e (dec_ne u)
  | cons c l => rw [e] at h; simp only [List.all_cons, Bool.and_eq_true] at h; exact h.1
theorem itoa_split {n m : Int} {r s : List UInt8} (hr : opens dig r = false) (hs : opens dig s = false) (h : itoa n ++ r = itoa m ++ s) : n = m ∧ r = s := by
  unfold itoa Go.Lib.itoa at h
  by_cases h1 : n < 0 <;> by_cases h2 : m < 0
  · rw [if_pos h1, if_pos h2] at h
    simp only [List.cons_append, List.cons.injEq, true_and] at h
    obtain ⟨e1, e2⟩ := split_all (dec_dig _) (dec_dig _) hr hs h
    have := congrArg val e1
    rw [val_dec, val_dec] at this
    exact ⟨by omega, e2⟩
  · rw [if_pos h1, if_neg h2] at h
    have := dec_open m.toNat s
    rw [← h] at this
    simp [opens, dig] at this
  · rw [if_neg h1, if_pos h2] at h
    have := dec_open n.toNat r
    rw [h] at this
    simp [opens, dig] at this
  · rw [if_neg h1, if_neg h2] at h
    obtain ⟨e1, e2⟩ := split_all (dec_dig _) (dec_dig _) hr hs h
    have := congrArg val e1
    rw [val_dec, val_dec] at this
    exact ⟨by omega, e2⟩
theorem itoa_head (n : Int) (r : List UInt8) : opens (fun c => dig c || decide (c = 45)) (itoa n ++ r) = true := by
  unfold itoa Go.Lib.itoa
  split
  · rfl
  · have := dec_open n.toNat r
    cases e : Go.Lib.decDigits n.toNat ++ r with
    | nil => rw [e] at this; cases this
    | cons c l => rw [e] at this; simp only [opens] at this ⊢; rw [this]; rfl
mutual
/-- Is every word of a term a name? -/
def named : Tm → Bool
  | .mk v ks => nameOk v && nameds ks
def nameds : List Tm → Bool
  | [] => true
  | t :: ts => named t && nameds ts
end
/-- What may stand behind a term. -/
def tail (r : List UInt8) : Bool := !opens lower r && !opens (fun c => decide (c = 40)) r
theorem tail_lower {r : List UInt8} (h : tail r = true) : opens lower r = false := by simp only [tail, Bool.and_eq_true, Bool.not_eq_true'] at h; exact h.1
theorem tail_open {r s : List UInt8} (h : tail r = true) : r ≠ 40 :: s := fun e => by subst e; cases h
theorem textB_open (v : ByteArray) (ks : List Tm) (r : List UInt8) : textB (.mk v ks) ++ r = bl' v ++ (if ks = [] then r else 40 :: (interL [44] (textBs ks) ++ 41 :: r)) := by
  rw [textB]
  cases ks with
  | nil => simp
  | cons k ks => simp
theorem name_lower {v : ByteArray} (h : nameOk v = true) : (bl' v).all lower = true := by
  simp only [nameOk, Bool.and_eq_true] at h; exact h.2
mutual
theorem text_split : ∀ (t u : Tm) (r s : List UInt8), named t = true → named u = true → tail r = true → tail s = true → textB t ++ r = textB u ++ s → t = u ∧ r = s
  | .mk v ks, .mk v' ks', r, s, ht, hu, hr, hs, h => by
    simp only [named, Bool.and_eq_true] at ht hu
    rw [textB_open, textB_open] at h
    have o : ∀ (ks : List Tm) (r : List UInt8), tail r = true → opens lower (if ks = [] then r else 40 :: (interL [44] (textBs ks) ++ 41 :: r)) = false := fun ks r hr => by
      split
      · exact tail_lower hr
      · rfl
    obtain ⟨e1, e2⟩ := split_all (name_lower ht.1) (name_lower hu.1) (o ks r hr) (o ks' s hs) h
    have e1 : v = v' := mkB_inj.2 e1
    subst e1
    by_cases h1 : ks = [] <;> by_cases h2 : ks' = []
    · rw [if_pos h1, if_pos h2] at e2; exact ⟨by rw [h1, h2], e2⟩
    · rw [if_pos h1, if_neg h2] at e2; exact absurd e2 (tail_open hr)
    · rw [if_neg h1, if_pos h2] at e2; exact absurd e2.symm (tail_open hs)
    · rw [if_neg h1, if_neg h2] at e2
      simp only [List.cons.injEq, true_and] at e2
      obtain ⟨e3, e4⟩ := texts_split ks ks' r s h1 h2 ht.2 hu.2 e2
      exact ⟨by rw [e3], e4⟩
theorem texts_split : ∀ (ts us : List Tm) (r s : List UInt8), ts ≠ [] → us ≠ [] → nameds ts = true → nameds us = true → interL [44] (textBs ts) ++ 41 :: r = interL [44] (textBs us) ++ 41 :: s → ts = us ∧ r = s
  | [], _, _, _, h, _, _, _, _ => absurd rfl h
  | [t], us, r, s, _, hu, h1, h2, h => by
    simp only [nameds, Bool.and_eq_true, Bool.and_true] at h1
    cases us with
    | nil => exact absurd rfl hu
    | cons u us =>
      simp only [nameds, Bool.and_eq_true] at h2
      cases us with
      | nil =>
        obtain ⟨e1, e2⟩ := text_split t u (41 :: r) (41 :: s) h1 h2.1 rfl rfl h
        simp only [List.cons.injEq, true_and] at e2
        exact ⟨by rw [e1], e2⟩
      | cons u2 us =>
        simp only [textBs, interL, List.append_assoc] at h
        obtain ⟨e1, e2⟩ := text_split t u (41 :: r) _ h1 h2.1 rfl rfl h
        simp at e2
  | t :: t2 :: ts, us, r, s, _, hu, h1, h2, h => by
    rw [nameds, Bool.and_eq_true] at h1
    cases us with
    | nil => exact absurd rfl hu
    | cons u us =>
      rw [nameds, Bool.and_eq_true] at h2
      cases us with
      | nil =>
        simp only [textBs, interL, List.append_assoc] at h
        obtain ⟨e1, e2⟩ := text_split t u _ (41 :: s) h1.1 h2.1 rfl rfl h
        simp at e2
      | cons u2 us =>
        have h' : textB t ++ (44 :: (interL [44] (textBs (t2 :: ts)) ++ 41 :: r)) = textB u ++ (44 :: (interL [44] (textBs (u2 :: us)) ++ 41 :: s)) := by
          simpa [textBs, interL] using h
        obtain ⟨e1, e2⟩ := text_split t u _ _ h1.1 h2.1 rfl rfl h'
        simp only [List.cons.injEq, true_and] at e2
        obtain ⟨e3, e4⟩ := texts_split (t2 :: ts) (u2 :: us) r s (by simp) (by simp) h1.2 h2.2 e2
        exact ⟨by rw [e1, e3], e4⟩
end
theorem shape_named : ∀ (n : Nat) (t : Tm), shape n t = true → named t = true
  | 0, _, h => by cases h
  | n + 1, .mk v ks, h => by
    simp only [shape, Bool.and_eq_true, List.all_eq_true] at h
    have hk : ∀ l : List Tm, (∀ t ∈ l, shape n t = true) → nameds l = true := fun l hl => by
      induction l with
      | nil => rfl
      | cons t ts ih =>
        rw [nameds, shape_named n t (hl t List.mem_cons_self), ih fun x hx => hl x (List.mem_cons_of_mem _ hx)]; rfl
    rw [named, Bool.and_eq_true]
    exact ⟨h.1.1, hk ks h.2⟩
theorem right_named {t : Tm} (h : right t = true) : named t = true := by
  unfold right at h
  rw [Bool.and_eq_true] at h
  exact shape_named 4 t h.1
theorem text_inj {t u : Tm} (ht : right t = true) (hu : right u = true) (h : textB t = textB u) : t = u := by
  have h : textB t ++ [] = textB u ++ [] := by rw [h]
  exact (text_split t u [] [] (right_named ht) (right_named hu) rfl rfl h).1
theorem text_head {t : Tm} (h : named t = true) (r : List UInt8) : opens lower (textB t ++ r) = true := by
  obtain ⟨v, ks⟩ := t
  simp only [named, Bool.and_eq_true] at h
  rw [textB_open]
  have h1 := name_lower h.1
  have h2 : 1 ≤ v.size := by have := h.1; simp only [nameOk, Bool.and_eq_true, decide_eq_true_eq] at this; exact this.1.1
  cases e : bl' v with
  | nil =>
    have : (bl' v).length = v.size := rfl
    rw [e] at this; simp at this; omega
  | cons c l => rw [e] at h1; simp only [List.all_cons, Bool.and_eq_true] at h1; exact h1.1
theorem low_dig {c : UInt8} {l : List UInt8} (h1 : opens lower (c :: l) = true) (h2 : opens (fun c => dig c || decide (c = 45)) (c :: l) = true) : False := by
  simp only [opens, lower, dig, Bool.not_eq_true', Bool.or_eq_false_iff, Bool.or_eq_true, Bool.and_eq_true, decide_eq_true_eq, decide_eq_false_iff_not] at h1 h2
  rcases h2 with h2 | h2
  · omega
  · subst h2; exact absurd h1.1 (by decide)
theorem nums_split : ∀ {ts us : List Tm} {ns ms : List Int} {r s : List UInt8}, (∀ t ∈ ts, named t = true) → (∀ t ∈ us, named t = true) → ts.length = ns.length → us.length = ms.length →
    opens (fun c => decide (c = 60)) r = true → opens (fun c => decide (c = 60)) s = true → numsB ts ns ++ r = numsB us ms ++ s → ts = us ∧ ns = ms ∧ r = s
  | [], [], [], [], r, s, _, _, _, _, _, _, h => ⟨rfl, rfl, h⟩
  | t :: ts, us, [], ms, r, s, _, _, h, _, _, _, _ => by simp at h
  | [], us, n :: ns, ms, r, s, _, _, h, _, _, _, _ => by simp at h
  | ts, u :: us, ns, [], r, s, _, _, _, h, _, _, _ => by simp at h
  | ts, [], ns, m :: ms, r, s, _, _, _, h, _, _, _ => by simp at h
  | t :: ts, [], n :: ns, [], r, s, _, _, _, _, hr, hs, h => by
    have e : itoa n ++ ([42] ++ textB t ++ [32] ++ numsB ts ns ++ r) = s := by simpa [numsB, numB] using h
    have := itoa_head n ([42] ++ textB t ++ [32] ++ numsB ts ns ++ r)
    rw [e] at this
    cases s with
    | nil => cases hs
    | cons c l =>
      have hc : c = 60 := by simpa [opens] using hs
      subst hc; cases this
  | [], u :: us, [], m :: ms, r, s, _, _, _, _, hr, hs, h => by
    have e : r = itoa m ++ ([42] ++ textB u ++ [32] ++ numsB us ms ++ s) := by simpa [numsB, numB] using h
    have := itoa_head m ([42] ++ textB u ++ [32] ++ numsB us ms ++ s)
    rw [← e] at this
    cases r with
    | nil => cases hr
    | cons c l =>
      have hc : c = 60 := by simpa [opens] using hr
      subst hc; cases this
  | t :: ts, u :: us, n :: ns, m :: ms, r, s, ht, hu, h1, h2, hr, hs, h => by
    have h' : itoa n ++ (42 :: (textB t ++ (32 :: (numsB ts ns ++ r)))) = itoa m ++ (42 :: (textB u ++ (32 :: (numsB us ms ++ s)))) := by simpa [numsB, numB] using h
    obtain ⟨e1, e2⟩ := itoa_split rfl rfl h'
    simp only [List.cons.injEq, true_and] at e2
    obtain ⟨e3, e4⟩ := text_split t u _ _ (ht t List.mem_cons_self) (hu u List.mem_cons_self) rfl rfl e2
    simp only [List.cons.injEq, true_and] at e4
    obtain ⟨e5, e6, e7⟩ := nums_split (fun x hx => ht x (List.mem_cons_of_mem _ hx)) (fun x hx => hu x (List.mem_cons_of_mem _ hx)) (by simpa using h1) (by simpa using h2) hr hs e4
    exact ⟨by rw [e3, e5], by rw [e1, e6], e7⟩
theorem noneT_eq {x : TP} (h : noneT x = true) : x = (ByteArray.empty, []) := by
  simp only [noneT, Bool.and_eq_true, decide_eq_true_eq] at h
  exact Prod.ext h.1 h.2
theorem atomB_inj {x y : Atm} (hx : atomRight x = true) (hy : atomRight y = true) (h : atomB x = atomB y) : x = y := by
  obtain ⟨k, ⟨a, as_⟩, ⟨b, bs_⟩, ts, ns, bd, sc⟩ := x
  obtain ⟨k', ⟨a', as'⟩, ⟨b', bs'⟩, ts', ns', bd', sc'⟩ := y
  have rx := right_eq hx
  have ry := right_eq hy
  have two : ∀ {k : Int} {a b : TP} {ts : List Tm} {ns : List Int} {bd : Int} {sc : Bool}, ¬ k = 1 → atomRight (k, a, b, ts, ns, bd, sc) = true → k = 2 ∧ noneT a = true ∧ noneT b = true ∧ ts.length = ns.length ∧ 1 ≤ ts.length := by
    intro k a b ts ns bd sc h1 h2
    unfold atomRight at h2
    split at h2
    · rename_i hk
      simp only [sumRight, Bool.and_eq_true] at h2
      have q := (head_iff k a b ts ns bd sc).1 h2.1
      exact ⟨hk, q.1, q.2.1, q.2.2.1, q.2.2.2.1⟩
    · rw [Bool.and_eq_true] at h2
      exact absurd (by simpa using h2.1) h1
  have one : ∀ {k : Int} {a b : TP} {ts : List Tm} {ns : List Int} {bd : Int} {sc : Bool}, k = 1 → atomRight (k, a, b, ts, ns, bd, sc) = true → ts = [] ∧ ns = [] ∧ bd = 0 ∧ sc = false := by
    intro k a b ts ns bd sc h1 h2
    subst h1
    simp only [atomRight, eqRight, Bool.and_eq_true, decide_eq_true_eq, Bool.not_eq_true'] at h2
    rw [if_neg (by decide)] at h2
    simp only [Bool.and_eq_true, decide_eq_true_eq, Bool.not_eq_true'] at h2
    exact ⟨h2.2.1.1.1.2, h2.2.1.1.2, h2.2.1.2, h2.2.2⟩
  by_cases h1 : k = 1 <;> by_cases h2 : k' = 1
  · rw [atomB_eq h1, atomB_eq h2] at h
    obtain ⟨p1, p2, p3, p4⟩ := one h1 hx
    obtain ⟨q1, q2, q3, q4⟩ := one h2 hy
    obtain ⟨u1, u2⟩ := rx.1 h1
    obtain ⟨v1, v2⟩ := ry.1 h2
    have h : textB (.mk a as_) ++ (61 :: textB (.mk b bs_)) = textB (.mk a' as') ++ (61 :: textB (.mk b' bs')) := by simpa using h
    obtain ⟨e1, e2⟩ := text_split _ _ _ _ (right_named u1) (right_named v1) rfl rfl h
    simp only [List.cons.injEq, true_and] at e2
    have e3 := text_inj u2 v2 e2
    cases e1; cases e3
    subst p1; subst p2; subst p3; subst p4; subst q1; subst q2; subst q3; subst q4; subst h1; subst h2
    rfl
  · exfalso
    rw [atomB_eq h1, atomB_sum h2] at h
    obtain ⟨_, _, _, q4, q5⟩ := two h2 hy
    have := text_head (right_named (rx.1 h1).1) ([61] ++ textB (.mk b bs_))
    dsimp only at h
    rw [← List.append_assoc, h] at this
    cases ts' with
    | nil => simp at q5
    | cons t l => cases ns' with
      | nil => simp at q4
      | cons n m =>
        have hh := itoa_head n ([42] ++ textB t ++ [32] ++ (numsB l m ++ ((if sc' = true then [60, 32] else [60, 61, 32]) ++ itoa bd')))
        have e : itoa n ++ ([42] ++ textB t ++ [32] ++ (numsB l m ++ ((if sc' = true then [60, 32] else [60, 61, 32]) ++ itoa bd'))) = numsB (t :: l) (n :: m) ++ (if sc' = true then [60, 32] else [60, 61, 32]) ++ itoa bd' := by simp [numsB, numB]
        rw [e] at hh
        revert this hh
        cases numsB (t :: l) (n :: m) ++ (if sc' = true then [60, 32] else [60, 61, 32]) ++ itoa bd' with
        | nil => intro h; cases h
        | cons c r => exact fun h1 h2 => low_dig h1 h2
  · exfalso
    rw [atomB_sum h1, atomB_eq h2] at h
    obtain ⟨_, _, _, q4, q5⟩ := two h1 hx
    have := text_head (right_named (ry.1 h2).1) ([61] ++ textB (.mk b' bs'))
    dsimp only at h
    rw [← List.append_assoc, ← h] at this
    cases ts with
    | nil => simp at q5
    | cons t l => cases ns with
      | nil => simp at q4
      | cons n m =>
        have hh := itoa_head n ([42] ++ textB t ++ [32] ++ (numsB l m ++ ((if sc = true then [60, 32] else [60, 61, 32]) ++ itoa bd)))
        have e : itoa n ++ ([42] ++ textB t ++ [32] ++ (numsB l m ++ ((if sc = true then [60, 32] else [60, 61, 32]) ++ itoa bd))) = numsB (t :: l) (n :: m) ++ (if sc = true then [60, 32] else [60, 61, 32]) ++ itoa bd := by simp [numsB, numB]
        rw [e] at hh
        revert this hh
        cases numsB (t :: l) (n :: m) ++ (if sc = true then [60, 32] else [60, 61, 32]) ++ itoa bd with
        | nil => intro h; cases h
        | cons c r => exact fun h1 h2 => low_dig h1 h2
  · rw [atomB_sum h1, atomB_sum h2] at h
    obtain ⟨p1, p2, p3, p4, p5⟩ := two h1 hx
    obtain ⟨q1, q2, q3, q4, q5⟩ := two h2 hy
    dsimp only at h
    rw [List.append_assoc, List.append_assoc] at h
    have o : ∀ (sc : Bool) (r : List UInt8), opens (fun c => decide (c = 60)) ((if sc = true then [60, 32] else [60, 61, 32]) ++ r) = true := fun sc r => by cases sc <;> rfl
    obtain ⟨e1, e2, e3⟩ := nums_split (fun t ht => right_named (rx.2 h1 t ht)) (fun t ht => right_named (ry.2 h2 t ht)) p4 q4 (o sc _) (o sc' _) h
    have e4 : sc = sc' ∧ itoa bd = itoa bd' := by
      cases sc <;> cases sc'
      · refine ⟨rfl, ?_⟩; simpa using e3
      · simp at e3
      · simp at e3
      · refine ⟨rfl, ?_⟩; simpa using e3
    have e5 : itoa bd ++ [] = itoa bd' ++ [] := by rw [e4.2]
    have e6 := (itoa_split rfl rfl e5).1
    have p2 := noneT_eq p2
    have p3 := noneT_eq p3
    have q2 := noneT_eq q2
    have q3 := noneT_eq q3
    rw [p1, q1, p2, p3, q2, q3, e1, e2, e4.1, e6]
theorem litB_inj {x y : Ltr} (hx : atomRight x.1 = true) (hy : atomRight y.1 = true) (h : litB x = litB y) : x = y := by
  have no : ∀ {a b : Atm}, atomRight b = true → [110, 111, 116, 32] ++ atomB a = atomB b → False := fun {a b} hb e => by
    obtain ⟨k, ⟨v, ks⟩, ⟨v', ks'⟩, ts, ns, bd, sc⟩ := b
    by_cases hk : k = 1
    · rw [atomB_eq (x := (k, (v, ks), (v', ks'), ts, ns, bd, sc)) hk] at e
      have hr := right_named (((right_eq hb).1 hk).1)
      simp only [named, Bool.and_eq_true] at hr
      dsimp only at e
      rw [List.append_assoc, textB_open] at e
      have e : [110, 111, 116] ++ (32 :: atomB a) = bl' v ++ (if ks = [] then [61] ++ textB (.mk v' ks') else 40 :: (interL [44] (textBs ks) ++ 41 :: ([61] ++ textB (.mk v' ks')))) := e
      have q := split_all (p := lower) (a := [110, 111, 116]) (by decide) (name_lower hr.1) rfl (by split <;> rfl) e
      have h2 : v.size ≤ 2 := by have := hr.1; simp only [nameOk, Bool.and_eq_true, decide_eq_true_eq] at this; exact this.1.2
      have h3 : (bl' v).length = v.size := rfl
      rw [← q.1] at h3
      simp at h3; omega
    · rw [atomB_sum (x := (k, (v, ks), (v', ks'), ts, ns, bd, sc)) hk] at e
      unfold atomRight at hb
      split at hb
      · simp only [sumRight, Bool.and_eq_true] at hb
        have q := (head_iff k (v, ks) (v', ks') ts ns bd sc).1 hb.1
        dsimp only at e
        cases ts with
        | nil => simp at q
        | cons t l => cases ns with
          | nil => simp at q
          | cons n m =>
            have hh := itoa_head n ([42] ++ textB t ++ [32] ++ (numsB l m ++ ((if sc = true then [60, 32] else [60, 61, 32]) ++ itoa bd)))
            have e2 : itoa n ++ ([42] ++ textB t ++ [32] ++ (numsB l m ++ ((if sc = true then [60, 32] else [60, 61, 32]) ++ itoa bd))) = numsB (t :: l) (n :: m) ++ (if sc = true then [60, 32] else [60, 61, 32]) ++ itoa bd := by simp [numsB, numB]
            rw [e2, ← e] at hh
            cases hh
      · rw [Bool.and_eq_true] at hb
        exact hk (by simpa using hb.1)
  unfold litB at h
  obtain ⟨a, n⟩ := x
  obtain ⟨b, m⟩ := y
  cases n <;> cases m
  · exact Prod.ext (atomB_inj hx hy h) rfl
  · exact (no hx h.symm).elim
  · exact (no hy h).elim
  · exact Prod.ext (atomB_inj hx hy (List.append_cancel_left h)) rfl
/-- What a reader hands back: the right thing with the text, if there is one. -/
noncomputable def rd {α : Type} (R : α → Bool) (T : α → List UInt8) (z : α) (s : List UInt8) : α × Bool := by
  classical exact if h : ∃ a, R a = true ∧ T a = s then (Classical.choose h, true) else (z, false)
section
variable {α : Type} {R : α → Bool} {T : α → List UInt8} {z : α} {s : List UInt8}
theorem rd_yes (inj : ∀ {a b : α}, R a = true → R b = true → T a = T b → a = b) {a : α} (h1 : R a = true) (h2 : T a = s) : rd R T z s = (a, true) := by
  unfold rd
  have h : ∃ a, R a = true ∧ T a = s := ⟨a, h1, h2⟩
  rw [dif_pos h]
  have q := Classical.choose_spec h
  rw [inj q.1 h1 (q.2.trans h2.symm)]
theorem rd_no (h : ∀ a, R a = true → ¬ T a = s) : rd R T z s = (z, false) := by
  unfold rd
  rw [dif_neg fun ⟨a, h1, h2⟩ => h a h1 h2]
theorem rd_ok (h : (rd R T z s).2 = true) : R (rd R T z s).1 = true ∧ T (rd R T z s).1 = s := by
  by_cases he : ∃ a, R a = true ∧ T a = s
  · have q := Classical.choose_spec he
    unfold rd
    rw [dif_pos he]
    exact q
  · unfold rd at h
    rw [dif_neg he] at h
    cases h
end
end Pl

/-
  Plain laws: texts that are read: pieces, numerals. No condition.
-/
set_option linter.unusedVariables false
set_option linter.unusedSimpArgs false
namespace Pl
open Go Cg
theorem take_snoc {α : Type} (d : α) {l : List α} {i : Nat} (h : i < l.length) : l.take (i + 1) = l.take i ++ [l.getD i d] := by
  rw [List.take_add_one]
  simp [h]
theorem cutL_ne (c : UInt8) : ∀ l : List UInt8, cutL c l ≠ []
  | [] => by simp [cutL]
  | x :: r => by
    unfold cutL
    split
    · simp
    · split <;> simp
theorem cutL_cons {c x : UInt8} (h : x ≠ c) (r : List UInt8) : ∃ p ps, cutL c r = p :: ps ∧ cutL c (x :: r) = (x :: p) :: ps := by
  cases hr : cutL c r with
  | nil => exact absurd hr (cutL_ne c r)
  | cons p ps => exact ⟨p, ps, rfl, by rw [cutL, if_neg h, hr]⟩
theorem cutL_no {c : UInt8} : ∀ {a : List UInt8}, (∀ x ∈ a, x ≠ c) → cutL c a = [a]
  | [], _ => rfl
  | x :: a, h => by
    obtain ⟨p, ps, e1, e2⟩ := cutL_cons (h x List.mem_cons_self) a
    rw [cutL_no fun y hy => h y (List.mem_cons_of_mem _ hy)] at e1
    cases e1
    exact e2
theorem cutL_app {c : UInt8} : ∀ {a : List UInt8} (b : List UInt8), (∀ x ∈ a, x ≠ c) → cutL c (a ++ c :: b) = a :: cutL c b
  | [], b, _ => by simp [cutL]
  | x :: a, b, h => by
    obtain ⟨p, ps, e1, e2⟩ := cutL_cons (h x List.mem_cons_self) (a ++ c :: b)
    rw [cutL_app b fun y hy => h y (List.mem_cons_of_mem _ hy)] at e1
    cases e1
    exact e2
theorem cutL_len (c : UInt8) : ∀ l : List UInt8, (cutL c l).length ≤ l.length + 1
  | [] => by simp [cutL]
  | x :: r => by
    have ih := cutL_len c r
    by_cases h : x = c
    · rw [cutL, if_pos h]; simp only [List.length_cons]; omega
    · obtain ⟨p, ps, e1, e2⟩ := cutL_cons h r
      rw [e2]; rw [e1] at ih; simp only [List.length_cons] at ih ⊢; omega
/-- No piece is longer than the text. -/
theorem cutL_le (c : UInt8) : ∀ (l : List UInt8), ∀ p ∈ cutL c l, p.length ≤ l.length
  | [], p, h => by simp [cutL] at h; subst h; simp
  | x :: r, p, h => by
    by_cases hx : x = c
    · rw [cutL, if_pos hx] at h
      rcases List.mem_cons.1 h with rfl | h
      · simp
      · have := cutL_le c r p h; simp only [List.length_cons]; omega
    · obtain ⟨q, qs, e1, e2⟩ := cutL_cons hx r
      rw [e2] at h
      rcases List.mem_cons.1 h with rfl | h
      · have := cutL_le c r q (by rw [e1]; exact List.mem_cons_self); simp only [List.length_cons]; omega
      · have := cutL_le c r p (by rw [e1]; exact List.mem_cons_of_mem _ h); simp only [List.length_cons]; omega
theorem cut_le {c : UInt8} {s p : ByteArray} (h : p ∈ cut c s) : p.size ≤ s.size := by
  obtain ⟨q, hq, rfl⟩ := List.mem_map.1 h
  exact cutL_le c _ q hq
theorem cut_len (c : UInt8) (s : ByteArray) : (cut c s).length ≤ s.size + 1 := by
  unfold cut; rw [List.length_map]; exact cutL_len c (bl' s)
theorem cut_ne (c : UInt8) (s : ByteArray) : 0 < (cut c s).length := by
  unfold cut; rw [List.length_map]
  exact List.length_pos_iff.2 (cutL_ne c _)
theorem vl_val (l : List UInt8) : vl l = val l := rfl
theorem vl_snoc (l : List UInt8) (c : UInt8) : vl (l ++ [c]) = vl l * 10 + (c.toNat - 48) := by unfold vl; rw [List.foldl_append]; rfl
theorem vl_lt' : ∀ (l : List UInt8) (a : Nat), l.all isDig = true → l.foldl (fun a c => a * 10 + (c.toNat - 48)) a + 1 ≤ (a + 1) * 10 ^ l.length
  | [], a, _ => by simp
  | c :: r, a, h => by
    simp only [List.all_cons, Bool.and_eq_true] at h
    have hc := h.1
    simp only [isDig, Bool.and_eq_true, decide_eq_true_eq] at hc
    have ih := vl_lt' r (a * 10 + (c.toNat - 48)) h.2
    rw [List.foldl_cons, List.length_cons, Nat.pow_succ]
    refine Nat.le_trans ih ?_
    rw [Nat.mul_comm (10 ^ r.length) 10, ← Nat.mul_assoc]
    exact Nat.mul_le_mul_right _ (by omega)
theorem vl_lt (l : List UInt8) (h : l.all isDig = true) : vl l < 10 ^ l.length := by
  have := vl_lt' l 0 h
  unfold vl
  omega
/-- A number's digits are few. -/
theorem dec_len : ∀ (k u : Nat), 0 < k → u < 10 ^ k → (Go.Lib.decDigits u).length ≤ k
  | 0, u, h, _ => absurd h (Nat.lt_irrefl _)
  | k + 1, u, _, h => by
    rw [Go.Lib.decDigits]
    split
    · simp
    · rename_i hu
      have hk : 0 < k := by
        cases k with
        | zero => simp at h; omega
        | succ k => exact Nat.succ_pos k
      have := dec_len k (u / 10) hk (by rw [Nat.pow_succ] at h; omega)
      simp only [List.length_append, List.length_cons, List.length_nil]; omega
/-- No number but 0 begins with the digit 0. -/
theorem dec_first (u : Nat) : (Go.Lib.decDigits u).getD 0 0 = 48 → u = 0 := by
  induction u using Nat.strongRecOn with
  | ind u ih =>
    rw [Go.Lib.decDigits]
    split
    · rename_i h
      intro e
      have e : UInt8.ofNat (48 + u) = 48 := e
      have := congrArg UInt8.toNat e
      rw [UInt8.toNat_ofNat'] at this
      have h48 : (48 : UInt8).toNat = 48 := rfl
      rw [h48] at this
      omega
    · rename_i h
      intro e
      have hne := dec_ne (u / 10)
      have e' : (Go.Lib.decDigits (u / 10)).getD 0 0 = 48 := by
        cases hd : Go.Lib.decDigits (u / 10) with
        | nil => exact absurd hd hne
        | cons c l => rw [hd] at e; exact e
      have := ih (u / 10) (by omega) e'
      omega
theorem dec_zero : Go.Lib.decDigits 0 = [48] := by rw [Go.Lib.decDigits]; rfl
theorem numD_dec {u : Nat} {neg : Bool} (h : u < 10 ^ 17) (hn : neg = true → u ≠ 0) : numD neg (Go.Lib.decDigits u) = (if neg = true then -(u : Int) else u, true) := by
  unfold numD
  have h1 := dec_len 17 u (by omega) h
  have h2 : (Go.Lib.decDigits u).length ≠ 0 := fun e => dec_ne u (List.length_eq_zero_iff.1 e)
  rw [if_neg, if_pos (by have := dec_dig u; exact this)]
  · rw [vl_val, val_dec]
  · rintro (h' | h' | ⟨h3, h4⟩)
    · exact h2 h'
    · omega
    · have hz := dec_first u h3
      subst hz
      rcases h4 with h4 | h4
      · rw [dec_zero] at h4; simp at h4
      · exact hn h4 rfl
theorem dec_head (u : Nat) : (Go.Lib.decDigits u).getD 0 0 ≠ 45 := fun e => by
  have h := dec_open u []
  rw [List.append_nil] at h
  cases hd : Go.Lib.decDigits u with
  | nil => exact dec_ne u hd
  | cons c l => rw [hd] at e h; have e : c = 45 := e; subst e; cases h
theorem numL_itoa {n : Int} (h1 : -100000000000000000 < n) (h2 : n < 100000000000000000) : numL (itoa n) = (n, true) := by
  unfold itoa Go.Lib.itoa numL
  by_cases h : n < 0
  · rw [if_pos h, if_pos ⟨by simp, rfl⟩]
    show numD true (Go.Lib.decDigits n.natAbs) = _
    rw [numD_dec (by have : (10 : Nat) ^ 17 = 100000000000000000 := by decide
                     rw [this]; omega) (fun _ => by omega), if_pos rfl]
    refine Prod.ext ?_ rfl
    show -((n.natAbs : Nat) : Int) = n
    omega
  · rw [if_neg h, if_neg fun e => dec_head _ e.2]
    rw [numD_dec (by have : (10 : Nat) ^ 17 = 100000000000000000 := by decide
                     rw [this]; omega) (fun e => by cases e), if_neg (by simp)]
    refine Prod.ext ?_ rfl
    show ((n.toNat : Nat) : Int) = n
    omega
theorem parse_digs : ∀ (l : List UInt8) (acc : Nat), l.all isDig = true → l.foldl (fun a c => a * 10 + (c.toNat - 48)) acc < 9223372036854775809 → Go.Lib.parseUint10 acc l = .ok (l.foldl (fun a c => a * 10 + (c.toNat - 48)) acc)
  | [], acc, _, _ => rfl
  | c :: r, acc, h, hb => by
    simp only [List.all_cons, Bool.and_eq_true] at h
    have hc := h.1
    simp only [isDig, Bool.and_eq_true, decide_eq_true_eq] at hc
    have mono : ∀ (l : List UInt8) (a : Nat), a ≤ l.foldl (fun a c => a * 10 + (c.toNat - 48)) a := fun l => by
      induction l with
      | nil => intro a; exact Nat.le_refl _
      | cons x l ih => intro a; exact Nat.le_trans (show a ≤ a * 10 + (x.toNat - 48) by omega) (ih _)
    have hm := mono r (acc * 10 + (c.toNat - 48))
    rw [List.foldl_cons] at hb
    rw [Go.Lib.parseUint10, if_pos hc, if_neg (by omega), if_neg (by omega), parse_digs r _ h.2 hb]
    rfl
theorem atoiL_itoa {n : Int} (h1 : -9223372036854775808 ≤ n) (h2 : n ≤ 9223372036854775807) : atoiL (itoa n) = n := by
  have mag : ∀ u : Nat, u < 9223372036854775809 → Go.Lib.parseMag (Go.Lib.decDigits u) = .ok u := fun u hu => by
    unfold Go.Lib.parseMag
    have hv : (Go.Lib.decDigits u).foldl (fun a c => a * 10 + (c.toNat - 48)) 0 = u := val_dec u
    rw [if_neg (dec_ne u), parse_digs _ 0 (dec_dig u) (by rw [hv]; exact hu), hv]
  unfold atoiL itoa Go.Lib.itoa
  by_cases h : n < 0
  · rw [if_pos h]
    have : Go.Lib.atoiAll (45 :: Go.Lib.decDigits n.natAbs) = .ok n := by
      unfold Go.Lib.atoiAll
      have h45 : (45 : UInt8).toNat = 45 := rfl
      simp only [h45, or_true, if_true, mag n.natAbs (by omega)]
      rw [if_neg (by simp), if_neg (by omega)]
      refine congrArg Go.Lib.NumEnd.ok ?_
      omega
    rw [this]
  · rw [if_neg h]
    have h' : Go.Lib.atoiAll (Go.Lib.decDigits n.toNat) = .ok n := by
      cases hd : Go.Lib.decDigits n.toNat with
      | nil => exact absurd hd (dec_ne _)
      | cons c l =>
        have ho := dec_open n.toNat []
        rw [List.append_nil, hd] at ho
        simp only [opens, dig, Bool.and_eq_true, decide_eq_true_eq] at ho
        unfold Go.Lib.atoiAll
        have e1 : ¬ c.toNat = 43 := by omega
        have e2 : ¬ c.toNat = 45 := by omega
        simp only [e1, e2, or_self, if_false]
        rw [← hd, mag n.toNat (by omega)]
        simp only [not_false_eq_true, true_and, false_and, if_false]
        rw [if_neg (by omega)]
        refine congrArg Go.Lib.NumEnd.ok ?_
        omega
    rw [h']
end Pl

/-
  The codes' contracts: texts that are read: the library's functions, pieces, numerals. No condition.
-/
set_option linter.unusedVariables false
set_option linter.unusedSimpArgs false
set_option maxRecDepth 100000
namespace Pl
open Go Cg
theorem split_cut (c : UInt8) : ∀ l : List UInt8, Go.Lib.splitK [c] 0 (Go.Lib.count l [c]) l = cutL c l
  | [] => by
    have h : Go.Lib.index [] [c] = -1 := rfl
    rw [Go.Lib.count_miss h]; rfl
  | x :: r => by
    have ih := split_cut c r
    by_cases hx : x = c
    · subst hx
      have h : Go.Lib.index (x :: r) [x] = ((0 : Nat) : Int) := by
        unfold Go.Lib.index
        rw [if_pos (by simp)]; rfl
      rw [Go.Lib.count_hit (by simp) h, Nat.add_comm, Go.Lib.splitK, if_neg (by rw [h]; decide), h]
      rw [cutL, if_pos rfl, ← ih]
      rfl
    · obtain ⟨p, ps, e1, e2⟩ := cutL_cons hx r
      rw [e2]
      have hp : [c].isPrefixOf (x :: r) = false := by simp [List.isPrefixOf, Ne.symm hx]
      rcases Go.Lib.index_spec r [c] with ⟨h1, _⟩ | ⟨i, h1, hi, _, _⟩
      · have h : Go.Lib.index (x :: r) [c] = -1 := by unfold Go.Lib.index; rw [hp, h1]; rfl
        rw [Go.Lib.count_miss h]
        rw [Go.Lib.count_miss h1, e1] at ih
        cases ih
        rfl
      · have h : Go.Lib.index (x :: r) [c] = ((i + 1 : Nat) : Int) := by
          unfold Go.Lib.index
          rw [hp, h1]
          have : ((i : Int) == -1) = false := by rw [beq_eq_false_iff_ne]; omega
          simp [this]
        have hc := Go.Lib.count_hit (sub := [c]) (by simp) h
        have hr := Go.Lib.count_hit (sub := [c]) (by simp) h1
        have hd : (x :: r).drop (i + 1 + [c].length) = r.drop (i + [c].length) := by
          rw [show i + 1 + [c].length = (i + [c].length) + 1 by omega, List.drop_succ_cons]
        rw [hd] at hc
        have m1 : ¬ (Go.Lib.index (x :: r) [c] == -1) = true := by rw [h]; simp only [beq_iff_eq]; omega
        have m2 : ¬ (Go.Lib.index r [c] == -1) = true := by rw [h1]; simp only [beq_iff_eq]; omega
        rw [hr, e1, Nat.add_comm 1, Go.Lib.splitK, if_neg m2, h1] at ih
        rw [hc, Nat.add_comm 1, Go.Lib.splitK, if_neg m1, h]
        simp only [Int.toNat_natCast, Nat.add_zero] at ih ⊢
        rw [hd, List.take_succ_cons]
        rw [List.cons.injEq] at ih ⊢
        exact ⟨by rw [ih.1], ih.2⟩
theorem count_cut (c : UInt8) : ∀ l : List UInt8, (cutL c l).length = Go.Lib.count l [c] + 1
  | [] => by
    have h : Go.Lib.index [] [c] = -1 := rfl
    rw [Go.Lib.count_miss h]; rfl
  | x :: r => by
    have ih := count_cut c r
    by_cases hx : x = c
    · subst hx
      have h : Go.Lib.index (x :: r) [x] = ((0 : Nat) : Int) := by
        unfold Go.Lib.index
        rw [if_pos (by simp)]; rfl
      rw [Go.Lib.count_hit (by simp) h, cutL, if_pos rfl, List.length_cons, ih]
      show Go.Lib.count r [x] + 1 + 1 = 1 + Go.Lib.count ((x :: r).drop 1) [x] + 1
      rw [List.drop_succ_cons, List.drop_zero]; omega
    · obtain ⟨p, ps, e1, e2⟩ := cutL_cons hx r
      rw [e2]
      rw [e1] at ih
      have hp : [c].isPrefixOf (x :: r) = false := by simp [List.isPrefixOf, Ne.symm hx]
      rcases Go.Lib.index_spec r [c] with ⟨h1, _⟩ | ⟨i, h1, hi, _, _⟩
      · have h : Go.Lib.index (x :: r) [c] = -1 := by unfold Go.Lib.index; rw [hp, h1]; rfl
        rw [Go.Lib.count_miss h]
        rw [Go.Lib.count_miss h1] at ih
        simpa using ih
      · have h : Go.Lib.index (x :: r) [c] = ((i + 1 : Nat) : Int) := by
          unfold Go.Lib.index
          rw [hp, h1]
          have : ((i : Int) == -1) = false := by rw [beq_eq_false_iff_ne]; omega
          simp [this]
        have hc := Go.Lib.count_hit (sub := [c]) (by simp) h
        have hr := Go.Lib.count_hit (sub := [c]) (by simp) h1
        have hd : (x :: r).drop (i + 1 + [c].length) = r.drop (i + [c].length) := by
          rw [show i + 1 + [c].length = (i + [c].length) + 1 by omega, List.drop_succ_cons]
        rw [hd] at hc
        rw [hc, ← hr]
        exact ih
theorem bl_mk (l : List UInt8) : bl' (mkB l) = l := rfl
theorem splitB_cut (c : UInt8) (s : ByteArray) : Go.Lib.splitB (mkB [c]) 0 (Go.Lib.countB s (mkB [c])) s = cut c s := by
  have h := Go.Lib.splitB_data (mkB [c]) 0 (Go.Lib.countB s (mkB [c])) s
  have h2 : Go.Lib.splitK (mkB [c]).data.toList 0 (Go.Lib.countB s (mkB [c])) s.data.toList = cutL c (bl' s) := split_cut c (bl' s)
  rw [h2] at h
  unfold cut
  rw [← h, List.map_map]
  have e : (mkB ∘ fun (x : ByteArray) => x.data.toList) = id := by funext x; rfl
  rw [e, List.map_id]
end Pl
namespace Cg
open Go Go.Proofs Pl
theorem gl_max {S : Nat → Prop} {w : World} (h : Gl S w) : ∃ m, w.cell? ⟨0, 0, none⟩ = some (.int .i64 m) := by
  obtain ⟨h1, c, T, fr, h2, m, h3⟩ := h _ (List.mem_cons_of_mem _ List.mem_cons_self)
  have h2 : w.heap[(0 : Nat)]? = some (.cells c T fr) := h2
  exact ⟨m, by simp only [World.cell?, h2, h3]; rfl⟩
theorem gl_syn {S : Nat → Prop} {w : World} (h : Gl S w) : ∃ ev, w.cell? ⟨1, 0, none⟩ = some ev ∧ (ev = .nilIface ∨ ∃ te pe, ev = .iface te pe) := by
  obtain ⟨h1, c, T, fr, h2, m, h3, h4⟩ := h _ (List.mem_cons_of_mem _ (List.mem_cons_of_mem _ List.mem_cons_self))
  have h2 : w.heap[(1 : Nat)]? = some (.cells c T fr) := h2
  exact ⟨m, by simp only [World.cell?, h2, h3]; rfl, h4⟩
theorem gl_rng {S : Nat → Prop} {w : World} (h : Gl S w) : ∃ ev, w.cell? ⟨2, 0, none⟩ = some ev ∧ (ev = .nilIface ∨ ∃ te pe, ev = .iface te pe) := by
  obtain ⟨h1, c, T, fr, h2, m, h3, h4⟩ := h _ (List.mem_cons_of_mem _ (List.mem_cons_of_mem _ (List.mem_cons_of_mem _ List.mem_cons_self)))
  have h2 : w.heap[(2 : Nat)]? = some (.cells c T fr) := h2
  exact ⟨m, by simp only [World.cell?, h2, h3]; rfl, h4⟩
theorem k_Split : SoundC Tryz.prog K_Split.1 K_Split.2 := ⟨callable_of (by kernel_rfl), fun x hx S w vals hin hgl hrel => by
  obtain ⟨s, c⟩ := x
  replace hx : s.size ≤ 4294967280 := hx
  obtain ⟨y0, r0, rfl, ha, y1, r1, rfl, hb, hc⟩ := hrel
  cases hc
  have ha : y0 = .string s := ha
  have hb : y1 = .string (mkB [c]) := hb
  subst ha; subst hb
  obtain ⟨m, hm⟩ := gl_max hgl
  refine (Tryz.strings_Split s (mkB [c]) m w (by omega) hm (Nat.le_refl 1)).mono fun e w' ⟨he, hw⟩ => ?_
  rw [splitB_cut] at hw
  have hlen : Go.Lib.countB s (mkB [c]) + 1 = (cut c s).length := by
    have h1 := Go.Lib.splitB_length_le (mkB [c]) 0 (Go.Lib.countB s (mkB [c])) s
    rw [splitB_cut] at h1
    have h2 := count_cut c (bl' s)
    have h3 : Go.Lib.countB s (mkB [c]) = Go.Lib.count (bl' s) [c] := rfl
    unfold cut
    rw [List.length_map, h2, h3]
  rw [hlen] at he
  subst hw
  generalize hC : ((cut c s).map Value.string).toArray = C

  have hnew : (w.heap.push (Obj.cells C 9))[w.heap.size]? = some (Obj.cells C 9) := by rw [Array.getElem?_push, if_pos rfl]
  refine ⟨_, fun b => S b ∨ b = w.heap.size, he, Ext.push w _ w.drawn, fun b hb => .inl hb, fun b hb => hb.elim .inl fun e => .inr (by omega), fun b hb => ?_, ?_⟩
  · show b < (w.heap.push _).size
    rw [Array.size_push]
    rcases hb with hb | rfl
    · have := hin b hb; omega
    · omega
  · refine ⟨_, _, rfl, Nat.le_refl _, .inr ⟨_, _, rfl, .inr rfl, _, _, _, hnew, fun i hi j hj => ?_⟩⟩
    have hj0 : j = 0 := by omega
    subst hj0
    refine ⟨.string ((cut c s).getD i ByteArray.empty), ?_, rfl, rfl⟩
    subst hC
    simp [hi, List.getD_eq_getElem?_getD]⟩
theorem k_Atoi : SoundC Tryz.prog K_Atoi.1 K_Atoi.2 := ⟨callable_of (by kernel_rfl), fun s hx S w vals hin hgl hrel => by
  replace hx : s.size ≤ 4294967280 := hx
  obtain ⟨y0, r0, rfl, ha, hc⟩ := hrel
  cases hc
  have ha : y0 = .string s := ha
  subst ha
  have fin : ∀ (n : Int) (v : Value) (w' : World), n = atoi s → Ext w w' → ∃ y S', (Ending.returned (.tuple #[.int .i64 n, v])) = .returned y ∧ After S mu0 w (.tup [i64 (atoi s), .any]) y w' S' := fun n v w' hn he => by
    subst hn
    exact ⟨_, S, rfl, he, fun _ h => h, fun _ h => .inl h, fun b hb => Nat.lt_of_lt_of_le (hin b hb) he.size, [.int .i64 (atoi s), v], rfl, _, _, rfl, rfl, _, _, rfl, trivial, rfl⟩
  cases h : Go.Lib.atoiAll s.data.toList with
  | ok v =>
    refine (Tryz.strconv_Atoi_ok s (by omega) v h w).mono fun e w' ⟨he, hw⟩ => ?_
    subst he
    have hv : v = atoi s := by unfold atoi atoiL bl'; rw [h]
    rcases hw with rfl | ⟨t, rfl⟩
    · exact fin _ _ _ hv (Ext.refl _)
    · exact fin _ _ _ hv (Ext.ofBelow (Go.Lib.bytesWorld_below w _ t))
  | range =>
    obtain ⟨ev, h1, h2⟩ := gl_rng hgl
    refine (Tryz.strconv_Atoi_range s (by omega) h ev w h1 h2).mono fun e w' ⟨N, he, _, _, hw⟩ => ?_
    subst he
    exact fin _ _ _ (by unfold atoi atoiL bl'; rw [h]) (Ext.ofBelow hw)
  | _ =>
    obtain ⟨ev, h1, h2⟩ := gl_syn hgl
    refine (Tryz.strconv_Atoi_syntax s (by omega) (fun v q => by rw [h] at q; cases q) (fun q => by rw [h] at q; cases q) ev w h1 h2).mono fun e w' ⟨N, he, _, _, hw⟩ => ?_
    subst he
    exact fin _ _ _ (by unfold atoi atoiL bl'; rw [h]) (Ext.ofBelow hw)⟩
theorem k_Cut : SoundC Tryz.prog K_Cut.1 K_Cut.2 := ⟨callable_of (by kernel_rfl), fun x hx S w vals hin hgl hrel => by
  obtain ⟨s, sep⟩ := x
  replace hx : s.size ≤ 4294967280 := hx
  obtain ⟨y0, r0, rfl, ha, y1, r1, rfl, hb, hc⟩ := hrel
  cases hc
  have ha : y0 = .string s := ha
  have hb : y1 = .string sep := hb
  subst ha; subst hb
  obtain ⟨m, hm⟩ := gl_max hgl
  refine (Tryz.strings_Cut s sep m w (by omega) hm).mono fun e w' ⟨he, n, hw⟩ => ?_
  subst hw
  exact ⟨_, S, he, Ext.drawn w _, fun _ h => h, fun _ h => .inl h, hin, [_, _, _], rfl, _, _, rfl, rfl, _, _, rfl, rfl, _, _, rfl, rfl, rfl⟩⟩
theorem k_HasPrefix : SoundC Tryz.prog K_HasPrefix.1 K_HasPrefix.2 := ⟨callable_of (by kernel_rfl), fun x hx S w vals hin hgl hrel => by
  obtain ⟨s, p⟩ := x
  obtain ⟨y0, r0, rfl, ha, y1, r1, rfl, hb, hc⟩ := hrel
  cases hc
  have ha : y0 = .string s := ha
  have hb : y1 = .string p := hb
  subst ha; subst hb
  refine (Tryz.strings_HasPrefix s p w).mono fun e w' ⟨he, hw⟩ => ?_
  subst hw
  exact ⟨_, S, he, Ext.refl _, fun _ h => h, fun _ h => .inl h, hin, rfl⟩⟩
theorem k_CutPrefix : SoundC Tryz.prog K_CutPrefix.1 K_CutPrefix.2 := ⟨callable_of (by kernel_rfl), fun x hx S w vals hin hgl hrel => by
  obtain ⟨s, p⟩ := x
  obtain ⟨y0, r0, rfl, ha, y1, r1, rfl, hb, hc⟩ := hrel
  cases hc
  have ha : y0 = .string s := ha
  have hb : y1 = .string p := hb
  subst ha; subst hb
  refine (Tryz.strings_CutPrefix s p w).mono fun e w' ⟨he, hw⟩ => ?_
  subst hw
  exact ⟨_, S, he, Ext.refl _, fun _ h => h, fun _ h => .inl h, hin, [_, _], rfl, _, _, rfl, rfl, _, _, rfl, rfl, rfl⟩⟩
theorem byte_at (s : ByteArray) (i : Nat) : s.data[i]?.getD 0 = (bl' s).getD i 0 := by
  unfold bl'
  rw [List.getD_eq_getElem?_getD, Array.getElem?_toList]
theorem ext_mk (s : ByteArray) (a b : Nat) : s.extract a b = mkB (((bl' s).drop a).take (b - a)) := by
  apply ByteArray.ext
  apply Array.toList_inj.1
  show (s.extract a b).data.toList = _
  rw [ByteArray.data_extract, Array.toList_extract, List.extract_eq_take_drop]
  rfl
theorem bl_len (s : ByteArray) : (bl' s).length = s.size := rfl
theorem piece_end {c : UInt8} {l : List UInt8} {a : Nat} (h : ∀ k, a ≤ k → k < l.length → l.getD k 0 ≠ c) : cutL c (l.drop a) = [l.drop a] :=
  cutL_no fun x hx => by
    obtain ⟨i, hi, rfl⟩ := List.getElem_of_mem hx
    rw [List.length_drop] at hi
    have := h (a + i) (by omega) (by omega)
    rw [List.getElem_drop]
    rw [List.getD_eq_getElem?_getD, List.getElem?_eq_getElem (by omega)] at this
    exact this
theorem piece_step {c : UInt8} {l : List UInt8} {a i : Nat} (hai : a ≤ i) (hi : i < l.length) (hc : l.getD i 0 = c) (h : ∀ k, a ≤ k → k < i → l.getD k 0 ≠ c) :
    cutL c (l.drop a) = (l.drop a).take (i - a) :: cutL c (l.drop (i + 1)) := by
  have e : l.drop a = (l.drop a).take (i - a) ++ c :: l.drop (i + 1) := by
    have h1 : l.drop i = c :: l.drop (i + 1) := by
      rw [List.drop_eq_getElem_cons hi]
      rw [List.getD_eq_getElem?_getD, List.getElem?_eq_getElem hi] at hc
      rw [show l[i] = c from hc]
    rw [← h1]
    have := (List.take_append_drop (i - a) (l.drop a)).symm
    rw [List.drop_drop, show a + (i - a) = i by omega] at this
    exact this
  conv => lhs; rw [e]
  exact cutL_app _ fun x hx => by
    obtain ⟨k, hk, rfl⟩ := List.getElem_of_mem hx
    rw [List.length_take, List.length_drop] at hk
    have := h (a + k) (by omega) (by omega)
    rw [List.getElem_take, List.getElem_drop]
    rw [List.getD_eq_getElem?_getD, List.getElem?_eq_getElem (by omega)] at this
    exact this
set_option maxHeartbeats 8000000 in
theorem g_l16Cut (s : ByteArray) (c : UInt8) (h1 : SzT s) : GoalW Tryz.prog [] (A_l16Cut s c) K_l16Cut.1 K_l16Cut.2 ((s, c)) := GoalW.of (vc_l16Cut s c) (by
  simp (maxSteps := 2000000) [-List.getD_eq_getElem?_getD, -List.mem_cons, -Bool.forall_bool, -Bool.exists_bool, and_assoc, peta, tl_inj, ex_1, ex_2, ex_3, ex_4, ex_5, ex_6, ex_7, ex_8, ex_9, ey_2, ey_3, ey_4, ey_5, ey_6, ey_7, ey_8, ey_9]
  have hs : s.size ≤ 4294967280 := h1
  have hl := bl_len s
  refine ⟨⟨0, 0, Nat.le_refl _, [], Nat.le_refl _, by omega, fun k h1 h2 => absurd h2 (by omega), fun _ => ⟨by omega, by simp [cut]⟩, fun h => absurd h (by omega), rfl, rfl, rfl, rfl⟩, fun i fr b h2 h3 h4 h5 h6 h7 => ⟨fun hle => ⟨fun he => ?_, fun he => ⟨by omega, fun hc => ?_, fun hc => ?_⟩⟩, fun hgt => h7 hgt⟩⟩
  · have he : i = s.size := by omega
    subst he
    have e := (h6 hle).2
    rw [piece_end fun k k1 k2 => h5 k k1 (by omega) (by omega)] at e
    refine ⟨h2, hle, by omega, s.size + 1, s.size + 1, Nat.le_refl _, b ++ [s.extract fr s.size], by simp; omega, by omega, fun k k1 k2 k3 => by omega, fun h => absurd h (by omega), fun _ => ?_, by omega, by simp, by rw [wrap_small (by omega) (by omega)]; omega, by rw [wrap_small (by omega) (by omega)]; omega, strs_push⟩
    rw [e, ext_mk, List.take_of_length_le (by simp; omega)]
    rfl
  · have hi : i < s.size := by omega
    have hc' : (bl' s).getD i 0 = c := by rw [← byte_at]; exact UInt8.toNat_inj.1 (by omega)
    refine ⟨h2, hle, by omega, i + 1, i + 1, Nat.le_refl _, b ++ [s.extract fr i], by simp; omega, by omega, fun k k1 k2 k3 => by omega, fun h => ⟨h, ?_⟩, fun h => by omega, by omega, by simp, by rw [wrap_small (by omega) (by omega)]; omega, by rw [wrap_small (by omega) (by omega)]; omega, strs_push⟩
    rw [(h6 hle).2, piece_step h2 (by omega) hc' fun k k1 k2 => h5 k k1 k2 (by omega), ext_mk]
    simp
  · have hi : i < s.size := by omega
    have hc' : (bl' s).getD i 0 ≠ c := fun e => hc (by rw [byte_at, e])
    refine ⟨i + 1, fr, by omega, b, h3, by omega, fun k k1 k2 k3 => ?_, fun h => h6 hle, fun h => by omega, by omega, rfl, rfl, by rw [wrap_small (by omega) (by omega)]; omega, .inr rfl⟩
    by_cases hk : k = i
    · rw [hk]; exact hc'
    · exact h5 k k1 (by omega) k3)
theorem k_l16Cut : SoundC Tryz.prog K_l16Cut.1 K_l16Cut.2 := sound_ofW hm CtxOK.nil (fun ((s, c) : ByteArray × UInt8) => A_l16Cut s c) (by kernel_rfl) fun ((s, c) : ByteArray × UInt8) hb => g_l16Cut s c hb
theorem numD_no {neg : Bool} {b : List UInt8} {a : Nat} (ha : a < b.length) (h : isDig (b.getD a 0) = false) : numD neg b = (0, false) := by
  unfold numD
  split
  · rfl
  · rw [if_neg]
    intro hall
    rw [List.all_eq_true] at hall
    have := hall (b.getD a 0) (getD_mem 0 ha)
    rw [h] at this; cases this
theorem num_loop (s : ByteArray) : ∀ (a : Nat) (a_1 : Bool) (b : List UInt8),
    a ≤ b.length → b.length ≤ 17 → num s = numD a_1 b → ¬b = [] → b.length ≤ 17 → (b.getD 0 0 = 48 → b.length ≤ 1 ∧ a_1 = false) → (∀ (x : UInt8), x ∈ List.take a b → isDig x = true) →
    (a < b.length → a < b.length ∧ (((((bl' (mkB b)).getD a 0).toNat : Nat) : Int) < 48 → 0 = (num s).fst ∧ (num s).snd = false) ∧
      ((48 : Int) ≤ ((((bl' (mkB b)).getD a 0).toNat : Nat) : Int) → a < b.length ∧ ((57 : Int) < ((((bl' (mkB b)).getD a 0).toNat : Nat) : Int) → 0 = (num s).fst ∧ (num s).snd = false) ∧
        (((((bl' (mkB b)).getD a 0).toNat : Nat) : Int) ≤ 57 → a < b.length ∧ ∃ a_12 a_13 b_1, a_12 ≤ b_1.length ∧ b_1.length ≤ 17 ∧ num s = numD a_13 b_1 ∧ ¬b_1 = [] ∧ b_1.length ≤ 17 ∧
          (b_1.getD 0 0 = 48 → b_1.length ≤ 1 ∧ a_13 = false) ∧ (∀ (x : UInt8), x ∈ List.take a_12 b_1 → isDig x = true) ∧ b_1.length - a_12 < b.length - a ∧ mkB b = mkB b_1 ∧ a_1 = a_13 ∧
          IntKind.i64.wrap (IntKind.i64.wrap (((vl (List.take a b) : Nat) : Int) * 10) + IntKind.i64.wrap (IntKind.u8.wrap (((((bl' (mkB b)).getD a 0).toNat : Nat) : Int) - 48))) = ((vl (List.take a_12 b_1) : Nat) : Int) ∧
          IntKind.i64.wrap ((a : Int) + 1) = ((a_12 : Nat) : Int)))) ∧
    (b.length ≤ a → (a_1 = true → IntKind.i64.wrap (-((vl (List.take a b) : Nat) : Int)) = (num s).fst ∧ (num s).snd = true) ∧ (a_1 = false → ((vl (List.take a b) : Nat) : Int) = (num s).fst ∧ (num s).snd = true)) := by
  intro a neg b h1 h2 h3 h4 _ h5 h6
  rw [show bl' (mkB b) = b from rfl]
  have no : a < b.length → isDig (b.getD a 0) = false → 0 = (num s).fst ∧ (num s).snd = false := fun ha h => by
    rw [h3, numD_no ha h]; exact ⟨rfl, rfl⟩
  have hlen : (b.take a).length = a := by rw [List.length_take]; omega
  have hv : vl (b.take a) < 10 ^ a := by
    have := vl_lt (b.take a) (List.all_eq_true.2 fun x hx => h6 x hx)
    rwa [hlen] at this
  have hp : (10 : Nat) ^ a ≤ 10 ^ 17 := Nat.pow_le_pow_right (by decide) (by omega)
  have h17 : (10 : Nat) ^ 17 = 100000000000000000 := by decide
  refine ⟨fun ha => ⟨ha, fun h => no ha ?_, fun hlo => ⟨ha, fun h => no ha ?_, fun hhi => ⟨ha, a + 1, neg, b, ha, h2, h3, h4, h2, h5, fun x hx => ?_, by omega, rfl, rfl, ?_, wrap_small (by omega) (by omega)⟩⟩⟩, fun hge => ?_⟩
  · unfold isDig; rw [decide_eq_false (by omega)]; rfl
  · unfold isDig; rw [decide_eq_false (p := (b.getD a 0).toNat ≤ 57) (by omega), Bool.and_false]
  · rw [take_snoc 0 ha, List.mem_append] at hx
    rcases hx with hx | hx
    · exact h6 x hx
    · rw [List.mem_singleton] at hx
      subst hx
      unfold isDig; rw [decide_eq_true (by omega), decide_eq_true (by omega)]; rfl
  · have hu : IntKind.u8.wrap ((((b.getD a 0).toNat : Nat) : Int) - 48) = (((b.getD a 0).toNat : Nat) : Int) - 48 := by
      show ((((b.getD a 0).toNat : Nat) : Int) - 48) % 256 = _
      omega
    rw [hu, wrap_small (x := ((vl (List.take a b) : Nat) : Int) * 10) (by omega) (by omega), wrap_small (x := (((b.getD a 0).toNat : Nat) : Int) - 48) (by omega) (by omega), wrap_small (by omega) (by omega), take_snoc 0 ha, vl_snoc]
    push_cast
    omega
  · have ha : a = b.length := by omega
    subst ha
    rw [List.take_length] at h6 hv ⊢
    have e : numD neg b = (if neg = true then -(vl b : Int) else vl b, true) := by
      unfold numD
      rw [if_neg, if_pos (List.all_eq_true.2 fun x hx => h6 x hx)]
      rintro (h | h | ⟨h, h'⟩)
      · exact h4 (List.length_eq_zero_iff.1 h)
      · omega
      · obtain ⟨q1, q2⟩ := h5 h
        rcases h' with h' | h'
        · omega
        · rw [q2] at h'; cases h'
    rw [h3, e, wrap_small (by omega) (by omega)]
    exact ⟨fun h => by rw [if_pos h]; exact ⟨rfl, rfl⟩, fun h => by rw [if_neg (by rw [h]; simp)]; exact ⟨rfl, rfl⟩⟩
set_option maxHeartbeats 8000000 in
theorem g_l16Num (s : ByteArray) (h1 : SzT s) : GoalW Tryz.prog [] (A_l16Num s) K_l16Num.1 K_l16Num.2 (s) := GoalW.of (vc_l16Num s) (by
  simp (maxSteps := 2000000) [-List.getD_eq_getElem?_getD, -List.mem_cons, -Bool.forall_bool, -Bool.exists_bool, and_assoc, peta, tl_inj, ex_1, ex_2, ex_3, ex_4, ex_5, ex_6, ex_7, ex_8, ex_9, ey_2, ey_3, ey_4, ey_5, ey_6, ey_7, ey_8, ey_9]
  have hs : s.size ≤ 4294967280 := h1
  have hl := bl_len s
  have hd : (bl' s).drop 1 = bl' (s.extract 1 s.size) := by
    rw [ext_mk]
    show _ = List.take (s.size - 1) ((bl' s).drop 1)
    rw [List.take_of_length_le (by simp; omega)]
  have hx : ∀ i, (s.data.extract 1 s.size)[i]?.getD 0 = ((bl' s).drop 1).getD i 0 := fun i => by
    rw [hd, ← byte_at]
    show _ = (s.extract 1 s.size).data[i]?.getD 0
    rw [ByteArray.data_extract]
  simp only [byte_at, hx]
  have i8 : ∀ (x : UInt8) (n : UInt8) (k : Int), k = ((n.toNat : Nat) : Int) → ((((x.toNat : Nat) : Int)) = k ↔ x = n) := fun x n k hk => by
    rw [hk]
    exact ⟨fun h => UInt8.toNat_inj.1 (by omega), fun h => by rw [h]⟩
  simp only [i8 _ 45 45 rfl, i8 _ 48 48 rfl]
  have nlen : ∀ d : List UInt8, ∀ neg, d.length = 0 → numD neg d = (0, false) := fun d neg h => by unfold numD; rw [if_pos (.inl h)]
  have nlong : ∀ d : List UInt8, ∀ neg, 17 < d.length → numD neg d = (0, false) := fun d neg h => by unfold numD; rw [if_pos (.inr (.inl h))]
  have nzero : ∀ d : List UInt8, ∀ neg, d.getD 0 0 = 48 → (1 < d.length ∨ neg = true) → numD neg d = (0, false) := fun d neg h h' => by unfold numD; rw [if_pos (.inr (.inr ⟨h, h'⟩))]
  have fin : ∀ {x : Int × Bool}, num s = x → x = (0, false) → 0 = (num s).fst ∧ (num s).snd = false := fun h1 h2 => by rw [h1, h2]; exact ⟨rfl, rfl⟩
  have yes : 0 < s.size → (bl' s).getD 0 0 = 45 → num s = numD true ((bl' s).drop 1) := fun h h' => by unfold num numL; rw [if_pos ⟨by rw [bl_len]; exact h, h'⟩]
  have not : ¬ (0 < s.size ∧ (bl' s).getD 0 0 = 45) → num s = numD false (bl' s) := fun h => by unfold num numL; rw [if_neg (by rw [bl_len]; exact h)]
  have dl : ((bl' s).drop 1).length = s.size - 1 := by simp; rfl
  have init : ∀ (neg : Bool) (d : List UInt8) (t : ByteArray), num s = numD neg d → t = mkB d → d.length ≠ 0 → d.length ≤ 17 → (d.getD 0 0 = 48 → d.length ≤ 1 ∧ neg = false) →
      ∃ a a_1 b, a ≤ b.length ∧ b.length ≤ 17 ∧ num s = numD a_1 b ∧ ¬b = [] ∧ b.length ≤ 17 ∧ (b.getD 0 0 = 48 → b.length ≤ 1 ∧ a_1 = false) ∧ (∀ (x : UInt8), x ∈ List.take a b → isDig x = true) ∧ t = mkB b ∧ neg = a_1 ∧ (0 : Int) = ((vl (List.take a b) : Nat) : Int) ∧ (0 : Int) = ((a : Nat) : Int) :=
    fun neg d t h1 h2 h3 h4 h5 => ⟨0, neg, d, Nat.zero_le _, h4, h1, fun e => h3 (by rw [e]; rfl), h4, h5, fun x hx => by simp at hx, h2, rfl, rfl, rfl⟩
  have n45 : ∀ h : (bl' s).getD 0 0 = 45, (((((bl' s).getD 0 0).toNat : Nat) : Int) == 45) = true := fun h => by rw [h]; rfl
  have m45 : ¬ (bl' s).getD 0 0 = 45 → (((((bl' s).getD 0 0).toNat : Nat) : Int) == 45) = false := fun h => by
    rw [beq_eq_false_iff_ne]
    exact fun e => h ((i8 _ 45 45 rfl).1 e)
  refine ⟨fun hp => ⟨hp, fun h45 => ⟨by omega, fun hz => fin (yes hp h45) (nlen _ _ (by omega)), fun hz => ⟨fun h17 => fin (yes hp h45) (nlong _ _ (by omega)), fun h17 => ⟨by omega, fun h48 => ⟨fun h1 => fin (yes hp h45) (nzero _ _ h48 (.inl (by omega))), fun h1 => ⟨fun _ => fin (yes hp h45) (nzero _ _ h48 (.inr rfl)), fun hn => absurd h45 hn⟩⟩, fun h48 => ⟨?_, num_loop s⟩⟩⟩⟩, fun h45 => ?_⟩, fun hp => ?_⟩
  · rw [n45 h45]
    exact init true _ _ (yes hp h45) (by rw [hd]; rfl) (by omega) (by omega) fun h => absurd h h48
  · have hnum := not fun e => h45 e.2
    have hne : ¬ s = ByteArray.empty := fun e => by rw [e] at hp; exact absurd hp (by decide)
    refine ⟨fun e => absurd e hne, fun _ => ⟨fun h17 => fin hnum (nlong _ _ (by omega)), fun h17 => ⟨hp, fun h48 => ⟨fun h1 => fin hnum (nzero _ _ h48 (.inl (by omega))), fun h1 => ⟨fun h => absurd h h45, fun _ => ⟨?_, num_loop s⟩⟩⟩, fun h48 => ⟨?_, num_loop s⟩⟩⟩⟩
    · rw [m45 h45]
      exact init false _ _ hnum rfl (by omega) (by omega) fun _ => ⟨by omega, rfl⟩
    · rw [m45 h45]
      exact init false _ _ hnum rfl (by omega) (by omega) fun h => absurd h h48
  · exact ⟨fun _ => fin (not fun e => by rw [hp] at e; exact absurd e.1 (by decide)) (nlen _ _ (by rw [hp]; rfl)), fun h => absurd hp h⟩)
theorem k_l16Num : SoundC Tryz.prog K_l16Num.1 K_l16Num.2 := sound_ofW hm CtxOK.nil (fun (s : ByteArray) => A_l16Num s) (by kernel_rfl) fun (s : ByteArray) hb => g_l16Num s hb
theorem tl_empty (s : ByteArray) : s.toList.isEmpty = decide (s = ByteArray.empty) := by
  have h0 : ByteArray.empty.toList = [] := by rw [ByteArray.toList_eq]; rfl
  rw [Bool.eq_iff_iff, List.isEmpty_iff, decide_eq_true_eq]
  exact ⟨fun h => tl_inj.1 (h.trans h0.symm), fun h => by rw [h, h0]⟩
end Cg

/-
  Plain laws: terms, atoms and literals are read back as written. No condition.
-/
set_option linter.unusedVariables false
set_option linter.unusedSimpArgs false
namespace Pl
open Go Cg
theorem itoa_no' {n : Int} {c : UInt8} (hc : dig c = false) (h45 : c ≠ 45) : ∀ x ∈ itoa n, x ≠ c := fun x hx e => by
  subst e
  have hd : ∀ u, ∀ y ∈ Go.Lib.decDigits u, dig y = true := fun u y hy => List.all_eq_true.1 (dec_dig u) y hy
  unfold itoa Go.Lib.itoa at hx
  split at hx
  · rcases List.mem_cons.1 hx with e | h
    · exact h45 e
    · rw [hd _ _ h] at hc; cases hc
  · rw [hd _ _ hx] at hc; cases hc
theorem rd_zero' {α : Type} {R : α → Bool} {T : α → List UInt8} {z : α} {s : List UInt8} (h : (rd R T z s).2 = false) : (rd R T z s).1 = z := by
  unfold rd at h ⊢
  split
  · rename_i he; rw [dif_pos he] at h; cases h
  · rfl
theorem wl_yes {c : UInt8} {l : List UInt8} (h : lower c = true) : wl (c :: l) = wl l + 1 := by unfold wl; rw [List.takeWhile_cons_of_pos h]; rfl
theorem wl_no {c : UInt8} {l : List UInt8} (h : lower c = false) : wl (c :: l) = 0 := by unfold wl; rw [List.takeWhile_cons_of_neg (by rw [h]; simp)]; rfl
theorem wl_le : ∀ l : List UInt8, wl l ≤ l.length
  | [] => Nat.le_refl _
  | c :: l => by
    cases h : lower c with
    | true => rw [wl_yes h]; have := wl_le l; simp only [List.length_cons]; omega
    | false => rw [wl_no h]; exact Nat.zero_le _
theorem wl_app : ∀ {a r : List UInt8}, a.all lower = true → opens lower r = false → wl (a ++ r) = a.length
  | [], [], _, _ => rfl
  | [], c :: r, _, h => wl_no h
  | c :: a, r, ha, h => by
    simp only [List.all_cons, Bool.and_eq_true] at ha
    rw [List.cons_append, wl_yes ha.1, wl_app ha.2 h]; rfl
theorem drop_cons (l : List UInt8) {x : Nat} (h : x < l.length) : l.drop x = l.getD x 0 :: l.drop (x + 1) := by
  rw [List.drop_eq_getElem_cons h, List.getD_eq_getElem?_getD, List.getElem?_eq_getElem h]; rfl
theorem wl_step {l : List UInt8} {x : Nat} (h : x < l.length) (hl : lower (l.getD x 0) = true) : x + wl (l.drop x) = x + 1 + wl (l.drop (x + 1)) := by
  rw [drop_cons l h, wl_yes hl]; omega
theorem wl_stop {l : List UInt8} {x : Nat} (h : x < l.length) (hl : lower (l.getD x 0) = false) : wl (l.drop x) = 0 := by
  rw [drop_cons l h, wl_no hl]
theorem wl_end {l : List UInt8} {x : Nat} (h : l.length ≤ x) : wl (l.drop x) = 0 := by rw [List.drop_of_length_le h]; rfl
theorem tmT_eta (t : Tm) : tmT (t.val, t.kids) = t := by cases t; rfl
def GoodR (l : List UInt8) (q : TP × Option (List UInt8)) : Prop := ∀ r, q.2 = some r → ∃ k, k ≤ l.length ∧ r = l.drop k ∧ costT (tmT q.1) + r.length ≤ l.length
theorem costT_tmT (x : TP) : costT (tmT x) = x.1.size + x.2.length + costTs x.2 := by unfold tmT; rw [costT]
theorem close_good {sp : Bool} {v : ByteArray} {ks : List Tm} {l r : List UInt8} (h : (closeT sp v ks l).2 = some r) : ∃ k, k ≤ l.length ∧ r = l.drop k ∧ costT (tmT (closeT sp v ks l).1) + r.length ≤ v.size + ks.length + costTs ks + l.length := by
  cases l with
  | nil => cases h
  | cons c l =>
    rw [closeT] at h ⊢
    split
    · rename_i hc
      rw [if_pos hc] at h
      cases h
      refine ⟨1, by simp, rfl, ?_⟩
      rw [costT_tmT]
      simp only [List.length_cons]; omega
    · rename_i hc
      rw [if_neg hc] at h; cases h
theorem kids_good {f : List UInt8 → TP × Option (List UInt8)} (hf : ∀ l, GoodR l (f l)) {sp : Bool} {v : ByteArray} : ∀ (k : Nat) (ks : List Tm) (l r : List UInt8), (kidsR f sp v k ks l).2 = some r →
    ∃ j, j ≤ l.length ∧ r = l.drop j ∧ costT (tmT (kidsR f sp v k ks l).1) + r.length ≤ v.size + ks.length + costTs ks + l.length
  | 0, ks, l, r, h => by rw [kidsR] at h ⊢; exact close_good h
  | k + 1, ks, [], r, h => by rw [kidsR] at h ⊢; exact close_good h
  | k + 1, ks, c :: l, r, h => by
    rw [kidsR] at h ⊢
    split
    · rename_i hc; rw [if_pos hc] at h; exact close_good h
    · rename_i hc
      rw [if_neg hc] at h
      have g := hf l
      match hq : f l with
      | (x, none) => rw [hq] at h; cases h
      | (x, some b) =>
        rw [hq] at h g
        dsimp only at h ⊢
        obtain ⟨j, h1, h2, h3⟩ := g b rfl
        split
        · rename_i hs
          rw [if_pos hs] at h
          obtain ⟨i, g1, g2, g3⟩ := kids_good hf k _ _ _ h
          have e : b.length = l.length - j := by rw [h2, List.length_drop]
          refine ⟨1 + j + i, by simp only [List.length_cons]; omega, ?_, ?_⟩
          · rw [g2, h2, List.drop_drop, show 1 + j + i = (j + i) + 1 by omega, List.drop_succ_cons]
          · rw [List.length_append, costTs_snoc] at g3
            simp only [List.length_cons, List.length_nil] at g3 ⊢
            dsimp only at h3
            omega
        · rename_i hs
          rw [if_neg hs] at h; cases h
theorem wname_size (l : List UInt8) : (wname l).size = wl l := by
  have := wl_le l
  show (l.take (wl l)).length = wl l
  rw [List.length_take]; omega
theorem rdT_good (sp : Bool) : ∀ (n : Nat) (l : List UInt8), GoodR l (rdT sp n l)
  | 0, l => fun r h => by cases h
  | n + 1, l => fun r h => by
    have hw := wl_le l
    have hn := wname_size l
    rw [rdT] at h ⊢
    split
    · rename_i hb; rw [if_pos hb] at h; cases h
    · rename_i hb
      rw [if_neg hb] at h
      split
      · rename_i ho
        rw [if_pos ho] at h
        obtain ⟨j, h1, h2, h3⟩ := kids_good (rdT_good sp n) _ _ _ _ h
        rw [List.length_drop] at h1 h3
        refine ⟨wl l + j, by omega, by rw [h2, List.drop_drop], ?_⟩
        simp only [List.length_nil, costTs] at h3
        omega
      · rename_i ho
        rw [if_neg ho] at h
        cases h
        refine ⟨wl l, hw, rfl, ?_⟩
        rw [costT_tmT]
        simp only [List.length_nil, costTs, List.length_drop]
        omega
theorem posn_cases (s : ByteArray) (sp : Bool) (n a : Nat) (ha : a ≤ s.size) :
    ((rdT sp n ((bl' s).drop a)).2 = none ∧ posn s (rdT sp n ((bl' s).drop a)).2 = -1) ∨
    ∃ q, a ≤ q ∧ q ≤ s.size ∧ (rdT sp n ((bl' s).drop a)).2 = some ((bl' s).drop q) ∧ posn s (rdT sp n ((bl' s).drop a)).2 = (q : Int) ∧ costT (tmT (rdT sp n ((bl' s).drop a)).1) + a ≤ q := by
  have hl : (bl' s).length = s.size := rfl
  match h : (rdT sp n ((bl' s).drop a)).2 with
  | none => exact .inl ⟨rfl, rfl⟩
  | some r =>
    obtain ⟨k, h1, h2, h3⟩ := rdT_good sp n _ _ h
    rw [List.length_drop, hl] at h1 h3
    rw [List.drop_drop] at h2
    subst h2
    rw [List.length_drop, hl] at h3
    refine .inr ⟨a + k, by omega, by omega, rfl, ?_, by omega⟩
    show ((s.size - ((bl' s).drop (a + k)).length : Nat) : Int) = _
    rw [List.length_drop, hl]
    omega
theorem rdT_name {sp : Bool} {n : Nat} {v : ByteArray} {r : List UInt8} (hv : nameOk v = true) (hr : opens lower r = false) : wl (bl' v ++ r) = v.size ∧ wname (bl' v ++ r) = v ∧ (bl' v ++ r).drop (wl (bl' v ++ r)) = r ∧ badW sp v = false := by
  have hlen : (bl' v).length = v.size := rfl
  have e : wl (bl' v ++ r) = v.size := (wl_app (name_lower hv) hr).trans hlen
  have hsz : 1 ≤ v.size := by simp only [nameOk, Bool.and_eq_true, decide_eq_true_eq] at hv; exact hv.1.1
  refine ⟨e, ?_, ?_, ?_⟩
  · unfold wname; rw [e, ← hlen, List.take_left]; rfl
  · rw [e, ← hlen, List.drop_left]
  · unfold badW
    split
    · exact decide_eq_false (by omega)
    · rw [hv]; rfl
theorem shape_eq {n : Nat} {t : Tm} (h : shape (n + 1) t = true) : nameOk t.val = true ∧ t.kids.length ≤ 2 ∧ t.kids.all (shape n) = true := by
  simp only [shape, Bool.and_eq_true, decide_eq_true_eq] at h; exact ⟨h.1.1, h.1.2, h.2⟩
theorem sep44 (sp : Bool) (r : List UInt8) : sepOk sp (44 :: r) = true := by unfold sepOk; simp
theorem sep41 (sp : Bool) (r : List UInt8) : sepOk sp (41 :: r) = true := by unfold sepOk; simp
theorem kids_text {f : List UInt8 → TP × Option (List UInt8)} {n : Nat} (hf : ∀ (t : Tm) (r : List UInt8), shape n t = true → tail r = true → f (textB t ++ r) = ((t.val, t.kids), some r)) {sp : Bool} {v : ByteArray} {r : List UInt8} :
    ∀ (ks done : List Tm) (K : Nat) (c : UInt8), ks ≠ [] → ks.all (shape n) = true → ks.length ≤ K → c ≠ 41 → kidsR f sp v K done (c :: (interL [44] (textBs ks) ++ 41 :: r)) = ((v, done ++ ks), some r)
  | [], _, _, _, h, _, _, _ => absurd rfl h
  | t :: ks, done, 0, c, _, _, h, _ => by simp at h
  | [t], done, K + 1, c, _, ha, hK, hc => by
    simp only [List.all_cons, List.all_nil, Bool.and_true] at ha
    have e : interL [44] (textBs [t]) ++ 41 :: r = textB t ++ 41 :: r := rfl
    rw [e, kidsR, if_neg hc, hf t (41 :: r) ha rfl]
    dsimp only
    rw [if_pos (sep41 sp r), tmT_eta]
    cases K with
    | zero => rw [kidsR]; rfl
    | succ K => rw [kidsR, if_pos rfl]; rfl
  | t :: u :: ks, done, K + 1, c, _, ha, hK, hc => by
    simp only [List.all_cons, Bool.and_eq_true] at ha
    have e : interL [44] (textBs (t :: u :: ks)) ++ 41 :: r = textB t ++ 44 :: (interL [44] (textBs (u :: ks)) ++ 41 :: r) := by
      show (textB t ++ [44] ++ interL [44] (textBs (u :: ks))) ++ 41 :: r = _
      simp
    rw [e, kidsR, if_neg hc, hf t _ ha.1 rfl]
    dsimp only
    rw [if_pos (sep44 sp _), tmT_eta, kids_text hf (u :: ks) (done ++ [t]) K 44 (by simp) (by simp only [List.all_cons, Bool.and_eq_true]; exact ha.2) (by simpa using hK) (by decide)]
    simp
theorem rdT_text (sp : Bool) : ∀ (n : Nat) (t : Tm) (r : List UInt8), shape n t = true → tail r = true → rdT sp n (textB t ++ r) = ((t.val, t.kids), some r)
  | 0, t, r, h, _ => by cases h
  | n + 1, .mk v ks, r, h, hr => by
    obtain ⟨h1, h2, h3⟩ := shape_eq h
    have h1 : nameOk v = true := h1
    have h2 : ks.length ≤ 2 := h2
    have h3 : ks.all (shape n) = true := h3
    have o : opens lower (if ks = [] then r else 40 :: (interL [44] (textBs ks) ++ 41 :: r)) = false := by
      split
      · exact tail_lower hr
      · rfl
    obtain ⟨e1, e2, e3, e4⟩ := rdT_name (sp := sp) (n := n) h1 o
    rw [textB_open, rdT, e2, e3, e4, if_neg (by simp)]
    by_cases hk : ks = []
    · rw [if_pos hk]
      have ho : openT r = false := by
        cases r with
        | nil => rfl
        | cons c r =>
          by_cases hc : c = 40
          · subst hc; exact absurd rfl (tail_open hr)
          · unfold openT; simp [hc]
      rw [ho, if_neg (by simp)]
      rw [hk]; rfl
    · rw [if_neg hk]
      have ho : openT (40 :: (interL [44] (textBs ks) ++ 41 :: r)) = true := rfl
      rw [ho, if_pos rfl, kids_text (rdT_text sp n) ks [] _ 40 hk h3 (by split <;> omega) (by decide)]
      rfl
theorem tmRd_rd (s : ByteArray) : tmRd s = rd (fun x : TP => right (.mk x.1 x.2)) (fun x => textB (.mk x.1 x.2)) zT (bl' s) := rfl
theorem tp_inj {a b : TP} (h : (Tree.mk a.1 a.2 : Tm) = .mk b.1 b.2) : a = b := by
  injection h with h1 h2; exact Prod.ext h1 h2
theorem tmRd_yes {x : TP} {s : ByteArray} (h : right (.mk x.1 x.2) = true) (ht : textB (.mk x.1 x.2) = bl' s) : tmRd s = (x, true) :=
  (tmRd_rd s).trans (rd_yes (fun {a b} ha hb e => tp_inj (text_inj ha hb e)) h ht)
theorem tmRd_no {s : ByteArray} (h : ∀ x : TP, right (.mk x.1 x.2) = true → ¬ textB (.mk x.1 x.2) = bl' s) : tmRd s = (zT, false) := (tmRd_rd s).trans (rd_no h)
theorem tmRd_ok {s : ByteArray} (h : (tmRd s).2 = true) : right (.mk (tmRd s).1.1 (tmRd s).1.2) = true ∧ textB (.mk (tmRd s).1.1 (tmRd s).1.2) = bl' s := by
  rw [tmRd_rd] at h ⊢; exact rd_ok h
theorem right_shape {t : Tm} (h : right t = true) : shape 4 t = true := by simp only [right, Bool.and_eq_true] at h; exact h.1
theorem rdT_right (sp : Bool) {x : TP} {s : ByteArray} (h : right (.mk x.1 x.2) = true) (ht : textB (.mk x.1 x.2) = bl' s) : rdT sp 4 (bl' s) = (x, some []) := by
  have e := rdT_text sp 4 (.mk x.1 x.2) [] (right_shape h) rfl
  rw [List.append_nil, ht] at e
  exact e
theorem textB_ne {t : Tm} (h : right t = true) : textB t ≠ [] := fun e => by
  have := text_head (right_named h) []
  rw [e] at this; cases this
/-- The document's last check. -/
theorem tmRd_S {s : ByteArray} {x : TP} (hx : x = (rdT true 4 (bl' s)).1) : tmRd s = if posn s (rdT true 4 (bl' s)).2 = s.size ∧ ¬ s = ByteArray.empty ∧ tx (right (.mk x.1 x.2)) (textB (.mk x.1 x.2)) = s then (x, true) else (zT, false) := by
  split
  · rename_i h
    obtain ⟨h1, h2, h3⟩ := h
    cases hr : right (.mk x.1 x.2) with
    | false => rw [hr] at h3; exact absurd h3.symm h2
    | true => rw [hr, tx_yes rfl] at h3; exact tmRd_yes hr (by rw [← h3]; rfl)
  · rename_i h
    refine tmRd_no fun y h1 h2 => h ?_
    have e := rdT_right true h1 h2
    have ex : x = y := by rw [hx, e]
    rw [e, ex]
    refine ⟨?_, fun e => ?_, ?_⟩
    · unfold posn; simp
    · rw [e] at h2; exact textB_ne h1 h2
    · rw [h1, tx_yes rfl, h2]; rfl
/-- The code's. -/
theorem tmRd_I {s : ByteArray} {x : TP} (hx : x = (rdT false 4 (bl' s)).1) : tmRd s = if (rdT false 4 (bl' s)).2 = some [] ∧ right (.mk x.1 x.2) = true ∧ mkB (textB (.mk x.1 x.2)) = s then (x, true) else (zT, false) := by
  split
  · rename_i h
    obtain ⟨h1, h2, h3⟩ := h
    exact tmRd_yes h2 (by rw [← h3]; rfl)
  · rename_i h
    refine tmRd_no fun y h1 h2 => h ?_
    have e := rdT_right false h1 h2
    have ex : x = y := by rw [hx, e]
    rw [e, ex]
    exact ⟨rfl, h1, by rw [h2]; rfl⟩
mutual
theorem text_no {c : UInt8} (hc : lower c = false ∧ c ≠ 40 ∧ c ≠ 41 ∧ c ≠ 44) : ∀ (t : Tm), named t = true → ∀ x ∈ textB t, x ≠ c
  | .mk v ks, h, x, hx => by
    simp only [named, Bool.and_eq_true] at h
    have e := textB_open v ks []
    rw [List.append_nil] at e
    rw [e] at hx
    rcases List.mem_append.1 hx with hx | hx
    · exact fun e => by
        subst e
        have := List.all_eq_true.1 (name_lower h.1) x hx
        rw [hc.1] at this; cases this
    · split at hx
      · cases hx
      · simp only [List.mem_cons, List.mem_append, List.not_mem_nil, or_false] at hx
        rcases hx with rfl | hx | rfl
        · exact fun e => hc.2.1 e.symm
        · exact texts_no hc ks h.2 x hx
        · exact fun e => hc.2.2.1 e.symm
theorem texts_no {c : UInt8} (hc : lower c = false ∧ c ≠ 40 ∧ c ≠ 41 ∧ c ≠ 44) : ∀ (ts : List Tm), nameds ts = true → ∀ x ∈ interL [44] (textBs ts), x ≠ c
  | [], _, x, hx => by cases hx
  | [t], h, x, hx => by
    simp only [nameds, Bool.and_eq_true] at h
    exact text_no hc t h.1 x hx
  | t :: u :: ts, h, x, hx => by
    have h1 : named t = true := by simp only [nameds, Bool.and_eq_true] at h; exact h.1
    have h2 : nameds (u :: ts) = true := by simp only [nameds, Bool.and_eq_true] at h ⊢; exact h.2
    have hx : x ∈ textB t ++ [44] ++ interL [44] (textBs (u :: ts)) := hx
    simp only [List.mem_append, List.mem_singleton] at hx
    rcases hx with (hx | rfl) | hx
    · exact text_no hc t h1 x hx
    · exact fun e => hc.2.2.2 e.symm
    · exact texts_no hc (u :: ts) h2 x hx
end
theorem cut_at' {a b sep : List UInt8} (h : ∀ j, j < a.length → Go.Lib.occAt (a ++ (sep ++ b)) sep j = false) : Go.Lib.cut (a ++ (sep ++ b)) sep = (a, b, true) := by
  have h1 : Go.Lib.index (a ++ (sep ++ b)) sep = ((a.length : Nat) : Int) := Go.Lib.index_first (by simp) (by
    unfold Go.Lib.occAt
    rw [List.drop_left, List.isPrefixOf_iff_prefix]
    exact List.prefix_append _ _) h
  unfold Go.Lib.cut
  rw [h1, if_pos (by omega)]
  simp only [Int.toNat_natCast]
  rw [List.take_left, ← List.drop_drop, List.drop_left, List.drop_left]
theorem cut_none' {a sep : List UInt8} (h : ∀ j, j ≤ a.length → Go.Lib.occAt a sep j = false) : Go.Lib.cut a sep = (a, [], false) := by
  have h1 := Go.Lib.index_none h
  unfold Go.Lib.cut
  rw [h1, if_neg (by omega)]
theorem occ_head' {s t : List UInt8} {c : UInt8} {j : Nat} (h : s.getD j 0 ≠ c ∨ s.length ≤ j) : Go.Lib.occAt s (c :: t) j = false := by
  cases ho : Go.Lib.occAt s (c :: t) j with
  | false => rfl
  | true =>
    have := Go.Lib.occAt_head rfl ho
    rcases h with h | h
    · rw [List.getD_eq_getElem?_getD, this] at h; exact absurd rfl h
    · rw [List.getElem?_eq_none h] at this; cases this
theorem cut_one' {a b : List UInt8} {c : UInt8} (h : ∀ x ∈ a, x ≠ c) : Go.Lib.cut (a ++ c :: b) [c] = (a, b, true) :=
  cut_at' (sep := [c]) fun j hj => occ_head' (.inl (by
    have e : (a ++ ([c] ++ b)).getD j 0 = a[j] := by rw [List.getD_eq_getElem?_getD, List.getElem?_append_left hj, List.getElem?_eq_getElem hj]; rfl
    rw [e]; exact h _ (List.getElem_mem hj)))
theorem cut_one_no' {a : List UInt8} {c : UInt8} (h : ∀ x ∈ a, x ≠ c) : Go.Lib.cut a [c] = (a, [], false) :=
  cut_none' fun j _ => occ_head' (by
    by_cases hj : j < a.length
    · refine .inl ?_
      rw [List.getD_eq_getElem?_getD, List.getElem?_eq_getElem hj]
      exact h _ (List.getElem_mem hj)
    · exact .inr (by omega))
/-- A list with a byte is cut at it. -/
theorem first_of {c : UInt8} : ∀ {l : List UInt8}, c ∈ l → ∃ a b, l = a ++ c :: b ∧ ∀ x ∈ a, x ≠ c
  | x :: l, h => by
    by_cases hx : x = c
    · exact ⟨[], l, by rw [hx]; rfl, fun y hy => by cases hy⟩
    · obtain ⟨a, b, e, h2⟩ := first_of ((List.mem_cons.1 h).resolve_left fun e => hx e.symm)
      refine ⟨x :: a, b, by rw [e]; rfl, fun y hy => ?_⟩
      rcases List.mem_cons.1 hy with rfl | hy
      · exact hx
      · exact h2 y hy
theorem cutK_text {s : ByteArray} {c : UInt8} (h : cutK s (mkB [c]) = true) : bl' s = bl' (cutA s (mkB [c])) ++ c :: bl' (cutR s (mkB [c])) := by
  by_cases hc : c ∈ bl' s
  · obtain ⟨a, b, e, h2⟩ := first_of hc
    have q : Go.Lib.cut (bl' s) (bl' (mkB [c])) = (a, b, true) := by rw [e]; exact cut_one' h2
    unfold cutA cutR
    rw [q]; exact e
  · have q : Go.Lib.cut (bl' s) (bl' (mkB [c])) = (bl' s, [], false) := cut_one_no' fun x hx e => hc (e ▸ hx)
    unfold cutK at h
    rw [q] at h; cases h
/-- A number of times, and what. -/
def pieceB (t : Tm) (n : Int) : List UInt8 := itoa n ++ 42 :: textB t
def wordsN : List Tm → List Int → List ByteArray
  | t :: ts, n :: ns => mkB (pieceB t n) :: wordsN ts ns
  | _, _ => []
theorem wordsN_len : ∀ {ts : List Tm} {ns : List Int}, ts.length = ns.length → (wordsN ts ns).length = ts.length
  | [], [], _ => rfl
  | [], _ :: _, h => by simp at h
  | _ :: _, [], h => by simp at h
  | t :: ts, n :: ns, h => by simp only [wordsN, List.length_cons]; rw [wordsN_len (by simpa using h)]
theorem c42 : lower 42 = false ∧ (42 : UInt8) ≠ 40 ∧ (42 : UInt8) ≠ 41 ∧ (42 : UInt8) ≠ 44 := by decide
theorem c32 : lower 32 = false ∧ (32 : UInt8) ≠ 40 ∧ (32 : UInt8) ≠ 41 ∧ (32 : UInt8) ≠ 44 := by decide
theorem c61 : lower 61 = false ∧ (61 : UInt8) ≠ 40 ∧ (61 : UInt8) ≠ 41 ∧ (61 : UInt8) ≠ 44 := by decide
theorem piece_no32 {t : Tm} {n : Int} (h : named t = true) : ∀ x ∈ pieceB t n, x ≠ 32 := fun x hx => by
  simp only [pieceB, List.mem_append, List.mem_cons] at hx
  rcases hx with hx | rfl | hx
  · exact itoa_no' (by decide) (by decide) x hx
  · decide
  · exact text_no c32 t h x hx
theorem nums_cut : ∀ {ts : List Tm} {ns : List Int} (r : List UInt8), ts.length = ns.length → (∀ t ∈ ts, named t = true) → (cutL 32 (numsB ts ns ++ r)).map mkB = wordsN ts ns ++ (cutL 32 r).map mkB
  | [], [], r, _, _ => rfl
  | [], _ :: _, r, h, _ => by simp at h
  | _ :: _, [], r, h, _ => by simp at h
  | t :: ts, n :: ns, r, h, hn => by
    have e : numsB (t :: ts) (n :: ns) ++ r = pieceB t n ++ 32 :: (numsB ts ns ++ r) := by simp [numsB, numB, pieceB]
    rw [e, cutL_app _ (piece_no32 (hn t List.mem_cons_self)), List.map_cons, nums_cut r (by simpa using h) fun t ht => hn t (List.mem_cons_of_mem _ ht)]
    rfl
theorem piece_cut {t : Tm} {n : Int} (h : named t = true) : cut 42 (mkB (pieceB t n)) = [mkB (itoa n), mkB (textB t)] := by
  unfold cut
  rw [bl_mk]
  unfold pieceB
  rw [cutL_app _ (itoa_no' (by decide) (by decide)), cutL_no (text_no c42 t h)]; rfl
theorem tm_text {t : Tm} (h : right t = true) : tmRd (mkB (textB t)) = ((t.val, t.kids), true) := tmRd_yes (x := (t.val, t.kids)) (by rw [show (Tree.mk t.val t.kids : Tm) = t from tmT_eta t]; exact h) (by rw [show (Tree.mk t.val t.kids : Tm) = t from tmT_eta t]; rfl)
theorem time_range {n : Int} (h : timeOk n = true) : -50 ≤ n ∧ n ≤ 50 := by
  simp only [timeOk, Bool.and_eq_true, decide_eq_true_eq] at h; exact ⟨h.1.2, h.2⟩
theorem numsS_words : ∀ {ts : List Tm} {ns : List Int}, ts.length = ns.length → (∀ t ∈ ts, right t = true) → numsS (wordsN ts ns) = ts
  | [], [], _, _ => rfl
  | [], _ :: _, h, _ => by simp at h
  | _ :: _, [], h, _ => by simp at h
  | t :: ts, n :: ns, h, hr => by
    have ht := hr t List.mem_cons_self
    have e : tmT (scanT (mkB (pieceB t n))) = t := by
      unfold scanT
      rw [piece_cut (right_named ht), if_pos (by simp)]
      show tmT (tmRd (mkB (textB t))).1 = t
      rw [tm_text ht]; exact tmT_eta t
    have ih := numsS_words (ts := ts) (ns := ns) (by simpa using h) fun t ht => hr t (List.mem_cons_of_mem _ ht)
    show tmT (scanT (mkB (pieceB t n))) :: numsS (wordsN ts ns) = t :: ts
    rw [e, ih]
theorem timesS_words : ∀ {ts : List Tm} {ns : List Int}, ts.length = ns.length → (∀ t ∈ ts, right t = true) → (∀ n ∈ ns, timeOk n = true) → timesS (wordsN ts ns) = ns
  | [], [], _, _, _ => rfl
  | [], _ :: _, h, _, _ => by simp at h
  | _ :: _, [], h, _, _ => by simp at h
  | t :: ts, n :: ns, h, hr, hn => by
    have ht := hr t List.mem_cons_self
    have e : scanN (mkB (pieceB t n)) = n := by
      have := time_range (hn n List.mem_cons_self)
      unfold scanN
      rw [piece_cut (right_named ht)]
      show (numL (bl' (mkB (itoa n)))).1 = n
      rw [bl_mk, numL_itoa (by omega) (by omega)]
    have ih := timesS_words (ts := ts) (ns := ns) (by simpa using h) (fun t ht => hr t (List.mem_cons_of_mem _ ht)) fun t ht => hn t (List.mem_cons_of_mem _ ht)
    show scanN (mkB (pieceB t n)) :: timesS (wordsN ts ns) = n :: ns
    rw [e, ih]
theorem piece_cut2 {t : Tm} {n : Int} : cutA (mkB (pieceB t n)) mulSgn = mkB (itoa n) ∧ cutR (mkB (pieceB t n)) mulSgn = mkB (textB t) := by
  have e : Go.Lib.cut (bl' (mkB (pieceB t n))) (bl' mulSgn) = (itoa n, textB t, true) := by
    rw [bl_mk]
    exact cut_one' (itoa_no' (by decide) (by decide))
  unfold cutA cutR
  rw [e]; exact ⟨rfl, rfl⟩
theorem numsI_words : ∀ {ts : List Tm} {ns : List Int}, ts.length = ns.length → (∀ t ∈ ts, right t = true) → numsI (wordsN ts ns) = ts ∧ allI (wordsN ts ns) = true
  | [], [], _, _ => ⟨rfl, rfl⟩
  | [], _ :: _, h, _ => by simp at h
  | _ :: _, [], h, _ => by simp at h
  | t :: ts, n :: ns, h, hr => by
    have ht := hr t List.mem_cons_self
    have e : tmRd (cutR (mkB (pieceB t n)) mulSgn) = ((t.val, t.kids), true) := by rw [piece_cut2.2]; exact tm_text ht
    obtain ⟨ih, ih2⟩ := numsI_words (ts := ts) (ns := ns) (by simpa using h) fun t ht => hr t (List.mem_cons_of_mem _ ht)
    refine ⟨?_, ?_⟩
    · show tmT (tmRd (cutR (mkB (pieceB t n)) mulSgn)).1 :: numsI (wordsN ts ns) = t :: ts
      rw [e, ih]
      show tmT (t.val, t.kids) :: ts = _
      rw [tmT_eta]
    · show ((tmRd (cutR (mkB (pieceB t n)) mulSgn)).2 && allI (wordsN ts ns)) = true
      rw [e, ih2]; rfl
theorem timesI_words : ∀ {ts : List Tm} {ns : List Int}, ts.length = ns.length → (∀ n ∈ ns, timeOk n = true) → timesI (wordsN ts ns) = ns
  | [], [], _, _ => rfl
  | [], _ :: _, h, _ => by simp at h
  | _ :: _, [], h, _ => by simp at h
  | t :: ts, n :: ns, h, hn => by
    have e : atoi (cutA (mkB (pieceB t n)) mulSgn) = n := by
      have := time_range (hn n List.mem_cons_self)
      rw [piece_cut2.1]
      show atoiL (bl' (mkB (itoa n))) = n
      rw [bl_mk, atoiL_itoa (by omega) (by omega)]
    have ih := timesI_words (ts := ts) (ns := ns) (by simpa using h) fun t ht => hn t (List.mem_cons_of_mem _ ht)
    show atoi (cutA (mkB (pieceB t n)) mulSgn) :: timesI (wordsN ts ns) = n :: ns
    rw [e, ih]
/-- What a right atom is. -/
theorem atom_two {k : Int} {a b : TP} {ts : List Tm} {ns : List Int} {bd : Int} {sc : Bool} (h1 : ¬ k = 1) (h2 : atomRight (k, a, b, ts, ns, bd, sc) = true) :
    k = 2 ∧ a = zT ∧ b = zT ∧ ts.length = ns.length ∧ 1 ≤ ts.length ∧ ts.length ≤ 4 ∧ -1000 ≤ bd ∧ bd ≤ 1000 ∧ (∀ t ∈ ts, right t = true) ∧ ∀ n ∈ ns, timeOk n = true := by
  unfold atomRight at h2
  split at h2
  · rename_i hk
    simp only [sumRight, Bool.and_eq_true] at h2
    have q := (head_iff k a b ts ns bd sc).1 h2.1
    exact ⟨hk, noneT_eq q.1, noneT_eq q.2.1, q.2.2.1, q.2.2.2.1, q.2.2.2.2.1, q.2.2.2.2.2.1, q.2.2.2.2.2.2, numOk_right q.2.2.1 h2.2, numOk_times q.2.2.1 h2.2⟩
  · rw [Bool.and_eq_true] at h2
    exact absurd (by simpa using h2.1) h1
theorem atom_one {k : Int} {a b : TP} {ts : List Tm} {ns : List Int} {bd : Int} {sc : Bool} (h1 : k = 1) (h2 : atomRight (k, a, b, ts, ns, bd, sc) = true) : ts = [] ∧ ns = [] ∧ bd = 0 ∧ sc = false ∧ right (.mk a.1 a.2) = true ∧ right (.mk b.1 b.2) = true := by
  subst h1
  have r := (right_eq h2).1 rfl
  simp only [atomRight, eqRight, Bool.and_eq_true, decide_eq_true_eq, Bool.not_eq_true'] at h2
  rw [if_neg (by decide)] at h2
  simp only [Bool.and_eq_true, decide_eq_true_eq, Bool.not_eq_true'] at h2
  exact ⟨h2.2.1.1.1.2, h2.2.1.1.2, h2.2.1.2, h2.2.2, r⟩
/-- The words of a sum. -/
theorem sum_cut {ts : List Tm} {ns : List Int} {bd : Int} {sc : Bool} {s : ByteArray} (h1 : ts.length = ns.length) (h2 : ∀ t ∈ ts, right t = true) (h : numsB ts ns ++ (if sc = true then [60, 32] else [60, 61, 32]) ++ itoa bd = bl' s) :
    cut 32 s = wordsN ts ns ++ [mkB (signB sc), mkB (itoa bd)] := by
  have e : numsB ts ns ++ (signB sc ++ 32 :: itoa bd) = bl' s := by rw [← h]; cases sc <;> simp [signB]
  unfold cut
  rw [← e, nums_cut _ h1 fun t ht => right_named (h2 t ht), cutL_app _ (by cases sc <;> decide), cutL_no (itoa_no' (by decide) (by decide))]
  rfl
theorem sign_is (sc : Bool) : decide (mkB (signB sc) = mkB [60]) = sc := by
  cases sc
  · exact decide_eq_false fun e => by have := congrArg bl' e; cases this
  · exact decide_eq_true rfl
theorem pq_two {w : List ByteArray} {a b : ByteArray} : pq (w ++ [a, b]) ((w ++ [a, b]).length - 1) = b ∧ pq (w ++ [a, b]) ((w ++ [a, b]).length - 2) = a ∧ (w ++ [a, b]).take ((w ++ [a, b]).length - 2) = w := by
  have e : (w ++ [a, b]).length = w.length + 2 := by simp
  rw [e]
  refine ⟨?_, ?_, ?_⟩
  · unfold pq; simp [List.getD_eq_getElem?_getD, List.getElem?_append_right]
  · unfold pq; simp [List.getD_eq_getElem?_getD]
  · simp
theorem eq_cut {a b : TP} {s : ByteArray} (ha : right (.mk a.1 a.2) = true) (hb : right (.mk b.1 b.2) = true) (h : textB (.mk a.1 a.2) ++ [61] ++ textB (.mk b.1 b.2) = bl' s) :
    cut 61 s = [mkB (textB (.mk a.1 a.2)), mkB (textB (.mk b.1 b.2))] ∧ (cut 32 s).length = 1 ∧ cutA s eqSgn = mkB (textB (.mk a.1 a.2)) ∧ cutR s eqSgn = mkB (textB (.mk b.1 b.2)) ∧ cutK s eqSgn = true := by
  have e : textB (.mk a.1 a.2) ++ 61 :: textB (.mk b.1 b.2) = bl' s := by rw [← h]; simp
  have q : Go.Lib.cut (bl' s) (bl' eqSgn) = (textB (.mk a.1 a.2), textB (.mk b.1 b.2), true) := by rw [← e]; exact cut_one' (text_no c61 _ (right_named ha))
  refine ⟨?_, ?_, ?_, ?_, ?_⟩
  · unfold cut; rw [← e, cutL_app _ (text_no c61 _ (right_named ha)), cutL_no (text_no c61 _ (right_named hb))]; rfl
  · unfold cut
    rw [← e, cutL_no fun x hx => ?_]
    · rfl
    simp only [List.mem_append, List.mem_cons] at hx
    rcases hx with hx | rfl | hx
    · exact text_no c32 _ (right_named ha) x hx
    · decide
    · exact text_no c32 _ (right_named hb) x hx
  · unfold cutA; rw [q]
  · unfold cutR; rw [q]
  · unfold cutK; rw [q]
theorem atomScan_of {x : Atm} {s : ByteArray} (h : atomRight x = true) (ht : atomB x = bl' s) : atomScan s = x := by
  obtain ⟨k, a, b, ts, ns, bd, sc⟩ := x
  by_cases hk : k = 1
  · obtain ⟨e1, e2, e3, e4, ha, hb⟩ := atom_one hk h
    rw [atomB_eq hk] at ht
    obtain ⟨q1, q2, _⟩ := eq_cut ha hb ht
    unfold atomScan
    rw [if_pos ⟨by rw [q1]; rfl, q2⟩]
    unfold eqScan
    rw [q1]
    show (1, (tmRd (mkB (textB (.mk a.1 a.2)))).1, (tmRd (mkB (textB (.mk b.1 b.2)))).1, _) = _
    rw [tm_text ha, tm_text hb, e1, e2, e3, e4, hk]
    rfl
  · obtain ⟨e1, e2, e3, h1, h2, h3, h4, h5, hr, hn⟩ := atom_two hk h
    rw [atomB_sum hk] at ht
    have q := sum_cut h1 hr ht
    have hl := wordsN_len h1
    have p := pq_two (w := wordsN ts ns) (a := mkB (signB sc)) (b := mkB (itoa bd))
    have hlen : (cut 32 s).length = ts.length + 2 := by rw [q, List.length_append, hl]; rfl
    unfold atomScan
    rw [if_neg (by omega)]
    unfold sumScan
    have htake : (cut 32 s).take (min ((cut 32 s).length - 2) 5) = wordsN ts ns := by
      rw [show min ((cut 32 s).length - 2) 5 = (cut 32 s).length - 2 by omega, q]; exact p.2.2
    have hb : boundS (cut 32 s) = bd := by
      unfold boundS
      rw [if_pos (by omega), q, p.1]
      show (numL (bl' (mkB (itoa bd)))).1 = bd
      rw [bl_mk, numL_itoa (by omega) (by omega)]
    have hs : strictS (cut 32 s) = sc := by
      unfold strictS
      rw [decide_eq_true (by omega), Bool.true_and, q, p.2.1, sign_is]
    rw [htake, hb, hs, numsS_words h1 hr, timesS_words h1 hr hn, e1, e2, e3]
theorem atomI_of {x : Atm} {s : ByteArray} (h : atomRight x = true) (ht : atomB x = bl' s) : atomI s = (x, true) := by
  obtain ⟨k, a, b, ts, ns, bd, sc⟩ := x
  by_cases hk : k = 1
  · obtain ⟨e1, e2, e3, e4, ha, hb⟩ := atom_one hk h
    rw [atomB_eq hk] at ht
    obtain ⟨_, _, q1, q2, q3⟩ := eq_cut ha hb ht
    have f1 : tmRd (mkB (textB (.mk a.1 a.2))) = (a, true) := tm_text ha
    have f2 : tmRd (mkB (textB (.mk b.1 b.2))) = (b, true) := tm_text hb
    unfold atomI
    rw [if_pos (by unfold eqK; rw [q1, q2, q3, f1, f2]; rfl)]
    unfold eqI
    rw [q1, q2, f1, f2, e1, e2, e3, e4, hk]; rfl
  · obtain ⟨e1, e2, e3, h1, h2, h3, h4, h5, hr, hn⟩ := atom_two hk h
    rw [atomB_sum hk] at ht
    have q := sum_cut h1 hr ht
    have hl := wordsN_len h1
    have p := pq_two (w := wordsN ts ns) (a := mkB (signB sc)) (b := mkB (itoa bd))
    have hlen : (cut 32 s).length = ts.length + 2 := by rw [q, List.length_append, hl]; rfl
    have hno : ¬ eqK s = true := fun hq => by
      unfold eqK at hq
      simp only [Bool.and_eq_true] at hq
      have t1 := tmRd_ok hq.1.2
      have t2 := tmRd_ok hq.2
      have e := cutK_text hq.1.1
      have e1 : cut 32 s = [s] := by
        unfold cut
        rw [cutL_no fun x hx => ?_]
        · rfl
        rw [e] at hx
        simp only [List.mem_append, List.mem_cons] at hx
        rcases hx with hx | rfl | hx
        · exact text_no c32 _ (right_named t1.1) x (by rw [t1.2]; exact hx)
        · decide
        · exact text_no c32 _ (right_named t2.1) x (by rw [t2.2]; exact hx)
      rw [e1] at hlen
      simp at hlen
    unfold atomI
    rw [if_neg hno]
    unfold sumI
    have htake : (cut 32 s).take ((cut 32 s).length - 2) = wordsN ts ns := by rw [q]; exact p.2.2
    rw [htake, if_pos ⟨by omega, (numsI_words h1 hr).2⟩]
    unfold sumW
    have hb : atoi (pq (cut 32 s) ((cut 32 s).length - 1)) = bd := by
      rw [q, p.1]
      show atoiL (bl' (mkB (itoa bd))) = bd
      rw [bl_mk, atoiL_itoa (by omega) (by omega)]
    have hs : decide (pq (cut 32 s) ((cut 32 s).length - 2) = mkB [60]) = sc := by
      rw [q, p.2.1, sign_is]
    rw [htake, hb, hs, (numsI_words h1 hr).1, timesI_words h1 hn, e1, e2, e3]
noncomputable def atomRd (s : ByteArray) : Atm × Bool := rd atomRight atomB zA (bl' s)
theorem tx_some {ok : Bool} {l : List UInt8} {s : ByteArray} (h : ¬ s = ByteArray.empty) (e : tx ok l = s) : ok = true ∧ mkB l = s := by
  cases ok with
  | false => exact absurd e.symm h
  | true => exact ⟨rfl, e⟩
theorem atomB_ne' {x : Atm} (h : atomRight x = true) : atomB x ≠ [] := fun e => by
  obtain ⟨k, a, b, ts, ns, bd, sc⟩ := x
  by_cases hk : k = 1
  · rw [atomB_eq hk] at e; simp at e
  · rw [atomB_sum hk] at e; cases sc <;> simp at e
theorem atomReadS_eq (s : ByteArray) : atomReadS s = atomRd s := by
  unfold atomReadS atomRd
  split
  · rename_i h
    obtain ⟨h1, h2⟩ := tx_some h.1 h.2
    exact (rd_yes atomB_inj h1 (by rw [← h2, bl_mk, h2])).symm
  · rename_i h
    refine (rd_no fun x h1 h2 => h ?_).symm
    rw [atomScan_of h1 h2, h1, tx_yes rfl, h2]
    exact ⟨fun e => atomB_ne' h1 (by rw [h2, e]; rfl), rfl⟩
theorem atomReadI_eq (s : ByteArray) : atomReadI s = atomRd s := by
  unfold atomReadI atomRd
  split
  · rename_i h
    exact (rd_yes atomB_inj h.2.1 (congrArg bl' h.2.2)).symm
  · rename_i h
    refine (rd_no fun x h1 h2 => h ?_).symm
    rw [atomI_of h1 h2]
    exact ⟨rfl, h1, by rw [h2]; rfl⟩
noncomputable def litRd (s : ByteArray) : Ltr × Bool := rd (fun l : Ltr => atomRight l.1) litB (zA, false) (bl' s)
theorem litB_inj' : ∀ {a b : Ltr}, atomRight a.1 = true → atomRight b.1 = true → litB a = litB b → a = b := fun h1 h2 e => litB_inj h1 h2 e
theorem not_no {a : Atm} {r : List UInt8} (h : atomRight a = true) : ¬ atomB a = [110, 111, 116, 32] ++ r := fun e => by
  obtain ⟨k, ⟨v, ks⟩, ⟨v', ks'⟩, ts, ns, bd, sc⟩ := a
  by_cases hk : k = 1
  · rw [atomB_eq (x := (k, (v, ks), (v', ks'), ts, ns, bd, sc)) hk] at e
    have hr := right_named (((right_eq h).1 hk).1)
    simp only [named, Bool.and_eq_true] at hr
    dsimp only at e
    rw [List.append_assoc, textB_open] at e
    have e : [110, 111, 116] ++ (32 :: r) = bl' v ++ (if ks = [] then [61] ++ textB (.mk v' ks') else 40 :: (interL [44] (textBs ks) ++ 41 :: ([61] ++ textB (.mk v' ks')))) := e.symm
    have q := split_all (p := lower) (a := [110, 111, 116]) (by decide) (name_lower hr.1) rfl (by split <;> rfl) e
    have h2 : v.size ≤ 2 := by have := hr.1; simp only [nameOk, Bool.and_eq_true, decide_eq_true_eq] at this; exact this.1.2
    have h3 : (bl' v).length = v.size := rfl
    rw [← q.1] at h3
    simp at h3; omega
  · rw [atomB_sum (x := (k, (v, ks), (v', ks'), ts, ns, bd, sc)) hk] at e
    obtain ⟨_, _, _, h1, h2, _⟩ := atom_two hk h
    dsimp only at e
    cases ts with
    | nil => simp at h2
    | cons t l => cases ns with
      | nil => simp at h1
      | cons n m =>
        have hh := itoa_head n ([42] ++ textB t ++ [32] ++ (numsB l m ++ ((if sc = true then [60, 32] else [60, 61, 32]) ++ itoa bd)))
        have e2 : itoa n ++ ([42] ++ textB t ++ [32] ++ (numsB l m ++ ((if sc = true then [60, 32] else [60, 61, 32]) ++ itoa bd))) = numsB (t :: l) (n :: m) ++ (if sc = true then [60, 32] else [60, 61, 32]) ++ itoa bd := by simp [numsB, numB]
        rw [e2, e] at hh
        cases hh
theorem lit_not {s : ByteArray} {r : List UInt8} (e : bl' s = [110, 111, 116, 32] ++ r) : litRd s = litOf true (atomRd (mkB r)) := by
  unfold litOf
  split
  · rename_i h
    obtain ⟨h1, h2⟩ := rd_ok h
    refine rd_yes litB_inj' h1 ?_
    have h2 : atomB (atomRd (mkB r)).1 = r := h2
    unfold litB
    rw [if_pos rfl, e]
    show [110, 111, 116, 32] ++ atomB (atomRd (mkB r)).1 = _
    rw [h2]
  · rename_i h
    refine rd_no fun l h1 h2 => h ?_
    obtain ⟨a, no⟩ := l
    cases no with
    | false => exact absurd (h2.trans e) (not_no h1)
    | true =>
      have h3 : [110, 111, 116, 32] ++ atomB a = [110, 111, 116, 32] ++ r := h2.trans e
      have h4 := List.append_cancel_left h3
      unfold atomRd
      rw [rd_yes (s := bl' (mkB r)) atomB_inj h1 h4]
theorem lit_yes {s : ByteArray} (e : ∀ r, r ≠ [] → ¬ bl' s = [110, 111, 116, 32] ++ r) : litRd s = litOf false (atomRd s) := by
  unfold litOf
  split
  · rename_i h
    obtain ⟨h1, h2⟩ := rd_ok h
    refine rd_yes litB_inj' h1 ?_
    unfold litB
    rw [if_neg (by simp)]; exact h2
  · rename_i h
    refine rd_no fun l h1 h2 => h ?_
    obtain ⟨a, no⟩ := l
    cases no with
    | true => exact absurd h2.symm (e _ (atomB_ne' h1))
    | false =>
      unfold atomRd
      rw [rd_yes (s := bl' s) atomB_inj h1 h2]
theorem litReadS_eq (s : ByteArray) : litReadS s = litRd s := by
  have hl : (bl' s).length = s.size := rfl
  unfold litReadS isNot
  split
  · rename_i h
    simp only [Bool.and_eq_true, decide_eq_true_eq] at h
    have e : bl' s = [110, 111, 116, 32] ++ (bl' s).drop 4 := by
      have h2 : (bl' s).take 4 = [110, 111, 116, 32] := congrArg bl' h.2
      rw [← h2, List.take_append_drop]
    rw [lit_not e, atomReadS_eq]
  · rename_i h
    rw [lit_yes fun r hr e => h ?_, atomReadS_eq]
    simp only [Bool.and_eq_true, decide_eq_true_eq]
    have h4 : 0 < r.length := List.length_pos_iff.2 hr
    refine ⟨by rw [← hl, e]; simp; omega, by rw [e]; rfl⟩
theorem litReadI_eq (s : ByteArray) : litReadI s = litRd s := by
  unfold litReadI
  have hn : bl' notSgn = [110, 111, 116, 32] := rfl
  cases hp : Go.Lib.hasPrefix (bl' s) (bl' notSgn) with
  | true =>
    obtain ⟨r, e⟩ : ∃ r, bl' s = [110, 111, 116, 32] ++ r := by
      unfold Go.Lib.hasPrefix at hp
      obtain ⟨r, e⟩ := List.isPrefixOf_iff_prefix.1 hp
      exact ⟨r, e.symm⟩
    have e2 : Go.Lib.trimPrefix (bl' s) (bl' notSgn) = r := by
      unfold Go.Lib.trimPrefix
      rw [hp, if_pos rfl, e, hn]; rfl
    rw [lit_not e, atomReadI_eq, e2]
  | false =>
    have e2 : Go.Lib.trimPrefix (bl' s) (bl' notSgn) = bl' s := by
      unfold Go.Lib.trimPrefix
      rw [hp, if_neg (by simp)]
    rw [lit_yes fun r hr e => ?_, atomReadI_eq, e2]
    · rfl
    · have : Go.Lib.hasPrefix (bl' s) (bl' notSgn) = true := by
        unfold Go.Lib.hasPrefix
        exact List.isPrefixOf_iff_prefix.2 ⟨r, e.symm⟩
      rw [hp] at this; cases this
end Pl

/-
  The codes' contracts: terms, atoms and literals that are read. No condition.
-/
set_option linter.unusedVariables false
set_option linter.unusedSimpArgs false
set_option maxRecDepth 100000
namespace Pl
open Go Cg
theorem rdT_bad {sp : Bool} {d : Nat} {l : List UInt8} (h : badW sp (wname l) = true ∨ d = 0) : rdT sp d l = failT sp (wname l, []) := by
  cases d with
  | zero => rfl
  | succ d => rw [rdT, if_pos (h.resolve_right (by omega))]
theorem rdT_open {sp : Bool} {d : Nat} {l : List UInt8} (hd : 0 < d) (hb : badW sp (wname l) = false) (ho : openT (l.drop (wl l)) = true) : rdT sp d l = kidsR (rdT sp (d - 1)) sp (wname l) (if sp = true then 3 else 2) [] (l.drop (wl l)) := by
  cases d with
  | zero => omega
  | succ d => rw [rdT, if_neg (by rw [hb]; simp), if_pos ho]; rfl
theorem rdT_plain {sp : Bool} {d : Nat} {l : List UInt8} (hd : 0 < d) (hb : badW sp (wname l) = false) (ho : openT (l.drop (wl l)) = false) : rdT sp d l = ((wname l, []), some (l.drop (wl l))) := by
  cases d with
  | zero => omega
  | succ d => rw [rdT, if_neg (by rw [hb]; simp), if_neg (by rw [ho]; simp)]
theorem openT_yes {l : List UInt8} {i : Nat} (h : i < l.length) (hc : l.getD i 0 = 40) : openT (l.drop i) = true := by
  rw [drop_cons l h, hc]; rfl
theorem openT_no {l : List UInt8} {i : Nat} (h : i < l.length) (hc : ¬ l.getD i 0 = 40) : openT (l.drop i) = false := by
  rw [drop_cons l h]
  unfold openT
  rw [Bool.and_eq_false_iff]
  exact .inr (decide_eq_false hc)
theorem openT_end {l : List UInt8} {i : Nat} (h : l.length ≤ i) : openT (l.drop i) = false := by rw [List.drop_of_length_le h]; rfl
section
variable {f : List UInt8 → TP × Option (List UInt8)} {sp : Bool} {v : ByteArray} {ks : List Tm} {c : UInt8} {r b : List UInt8}
theorem kidsR_nil : ∀ k, kidsR f sp v k ks [] = failT sp (v, ks)
  | 0 => by rw [kidsR]; rfl
  | k + 1 => by rw [kidsR]; rfl
theorem kidsR_close : ∀ k, kidsR f sp v k ks (41 :: r) = ((v, ks), some r)
  | 0 => by rw [kidsR]; rfl
  | k + 1 => by rw [kidsR, if_pos rfl]; rfl
theorem kidsR_zero {k : Nat} (hk : k = 0) (hc : c ≠ 41) : kidsR f sp v k ks (c :: r) = failT sp (v, ks) := by
  subst hk
  rw [kidsR, closeT, if_neg hc]
theorem kidsR_none {k : Nat} (hk : 0 < k) (hc : c ≠ 41) (h : (f r).2 = none) : kidsR f sp v k ks (c :: r) = failT sp (v, ks) := by
  cases k with
  | zero => omega
  | succ k =>
    rw [kidsR, if_neg hc]
    match hq : f r with
    | (x, none) => rfl
    | (x, some b) => rw [hq] at h; cases h
theorem kidsR_some {k : Nat} (hk : 0 < k) (hc : c ≠ 41) (h : (f r).2 = some b) : kidsR f sp v k ks (c :: r) = if sepOk sp b = true then kidsR f sp v (k - 1) (ks ++ [tmT (f r).1]) b else failT sp (v, ks) := by
  cases k with
  | zero => omega
  | succ k =>
    rw [kidsR, if_neg hc]
    match hq : f r with
    | (x, none) => rw [hq] at h; cases h
    | (x, some b') => rw [hq] at h; cases h; rfl
end
theorem b40 {c : UInt8} : ((c.toNat : Nat) : Int) = 40 ↔ c = 40 := ⟨fun h => UInt8.toNat_inj.1 (by show c.toNat = 40; omega), fun h => by rw [h]; rfl⟩
theorem b41 {c : UInt8} : ((c.toNat : Nat) : Int) = 41 ↔ c = 41 := ⟨fun h => UInt8.toNat_inj.1 (by show c.toNat = 41; omega), fun h => by rw [h]; rfl⟩
theorem b44 {c : UInt8} : ((c.toNat : Nat) : Int) = 44 ↔ c = 44 := ⟨fun h => UInt8.toNat_inj.1 (by show c.toNat = 44; omega), fun h => by rw [h]; rfl⟩
theorem low_yes {c : UInt8} (h1 : (97 : Int) ≤ ((c.toNat : Nat) : Int)) (h2 : ((c.toNat : Nat) : Int) ≤ 122) : lower c = true := by
  unfold lower; rw [decide_eq_false (by omega), decide_eq_false (by omega)]; rfl
theorem low_no1 {c : UInt8} (h1 : ((c.toNat : Nat) : Int) < 97) : lower c = false := by
  unfold lower; rw [decide_eq_true h1]; rfl
theorem low_no2 {c : UInt8} (h1 : (122 : Int) < ((c.toNat : Nat) : Int)) : lower c = false := by
  unfold lower; rw [decide_eq_true (show ((c.toNat : Nat) : Int) > 122 from h1), Bool.or_true]; rfl
theorem ext_wname (s : ByteArray) (a : Nat) : s.extract a (a + wl ((bl' s).drop a)) = wname ((bl' s).drop a) := by
  rw [ext_mk, Nat.add_sub_cancel_left]; rfl
theorem ext_rest (s : ByteArray) (a : Nat) : s.extract a s.size = mkB ((bl' s).drop a) := by
  have hl : (bl' s).length = s.size := rfl
  rw [ext_mk, ← hl, List.take_of_length_le (by rw [List.length_drop]; omega)]
theorem pre_one (l : List UInt8) (c : UInt8) : Go.Lib.hasPrefix (bl' (mkB l)) (bl' { data := #[c] }) = (decide (0 < l.length) && decide (l.getD 0 0 = c)) := by
  show Go.Lib.hasPrefix l [c] = _
  unfold Go.Lib.hasPrefix
  cases l with
  | nil => rfl
  | cons x l =>
    simp only [List.isPrefixOf, Bool.and_true, List.length_cons, List.getD_cons_zero]
    rw [decide_eq_true (by omega), Bool.true_and, Bool.eq_iff_iff, beq_iff_eq, decide_eq_true_eq]
    exact ⟨fun h => h.symm, fun h => h.symm⟩
theorem exits {n x : Nat} {t : Int} {A C : Prop} (E : Prop) (h1 : x < n → 97 ≤ t → t ≤ 122 → A) (h2 : x < n → 122 < t → E) (h3 : x < n → t < 97 → E) (h4 : n ≤ x → E) (hC : E → C) :
    (x < n → x < n ∧ (97 ≤ t → x < n ∧ (t ≤ 122 → A) ∧ (122 < t → C)) ∧ (t < 97 → C)) ∧ (n ≤ x → C) :=
  ⟨fun h => ⟨h, fun a => ⟨h, h1 h a, fun b => hC (h2 h b)⟩, fun b => hC (h3 h b)⟩, fun h => hC (h4 h)⟩
theorem exits2 {p n l : Nat} {t B X : Prop} (hB : l ≤ 2 → p < n → ¬ t → B) (hX : (l ≤ 2 → p < n → t) → X) :
    ((l : Int) ≤ 2 → (p < n → p < n ∧ (¬ t → B) ∧ (t → X)) ∧ (n ≤ p → X)) ∧ (2 < (l : Int) → X) :=
  ⟨fun h => ⟨fun g => ⟨g, hB (by omega) g, fun q => hX fun _ _ => q⟩, fun g => hX fun _ k => by omega⟩, fun h => hX fun k _ => by omega⟩
theorem exits3 {n l : Nat} {q t B X : Prop} (hq : ¬ q → 0 < n) (hB : l < 2 → ¬ q → ¬ t → B) (hX : (l < 2 → ¬ q → t) → X) :
    (¬ q → 0 < n ∧ (¬ t → ((l : Int) < 2 → B) ∧ (2 ≤ (l : Int) → X)) ∧ (t → X)) ∧ (q → X) :=
  ⟨fun h => ⟨hq h, fun g => ⟨fun k => hB (by omega) h g, fun k => hX fun m _ => by omega⟩, fun g => hX fun _ _ => g⟩, fun h => hX fun _ g => absurd h g⟩
theorem shape_cost : ∀ (n : Nat) (t : Tm), shape n t = true → costT t ≤ 4 * manyD n t
  | 0, t, h => by cases h
  | n + 1, t, h => by
    obtain ⟨h1, h2, h3⟩ := shape_eq h
    have hsz : t.val.size ≤ 2 := by simp only [nameOk, Bool.and_eq_true, decide_eq_true_eq] at h1; exact h1.1.2
    have key : ∀ l : List Tm, l.all (shape n) = true → costTs l ≤ 4 * sumN (manyD n) l := by
      intro l
      induction l with
      | nil => intro _; exact Nat.le_refl _
      | cons u r ih =>
        intro hl
        simp only [List.all_cons, Bool.and_eq_true] at hl
        have := shape_cost n u hl.1
        have := ih hl.2
        simp only [costTs, sumN]; omega
    have := key t.kids h3
    rw [costT_eq]
    show _ ≤ 4 * (1 + sumN (manyD n) t.kids)
    omega
theorem right_cost {t : Tm} (h : right t = true) : costT t ≤ 48 := by
  simp only [right, Bool.and_eq_true, decide_eq_true_eq] at h
  have := shape_cost 4 t h.1
  omega
theorem tmRd_cost (s : ByteArray) : costT (tmT (tmRd s).1) ≤ 48 := by
  cases h : (tmRd s).2 with
  | true => exact right_cost (tmRd_ok h).1
  | false =>
    have e : (tmRd s).1 = zT := by rw [tmRd_rd] at h ⊢; exact rd_zero' h
    rw [e]; decide
theorem costTs_map {α : Type} (f : α → Tm) (h : ∀ x, costT (f x) ≤ 48) : ∀ l : List α, costTs (l.map f) ≤ 48 * l.length
  | [] => Nat.le_refl _
  | x :: l => by have := h x; have := costTs_map f h l; simp only [List.map_cons, costTs, List.length_cons]; omega
theorem scanT_cost (p : ByteArray) : costT (tmT (scanT p)) ≤ 48 := by
  unfold scanT
  split
  · exact tmRd_cost _
  · decide
theorem sum_cost {k : Int} {a b : TP} {ts : List Tm} {ns : List Int} {bd : Int} {sc : Bool} (ha : costT (tmT a) ≤ 48) (hb : costT (tmT b) ≤ 48) (h1 : ts.length ≤ 10) (h2 : costTs ts ≤ 480) (h3 : ns.length ≤ 10) : costA (k, a, b, ts, ns, bd, sc) ≤ 1048576 := by
  have ha : costT (.mk a.1 a.2) ≤ 48 := ha
  have hb : costT (.mk b.1 b.2) ≤ 48 := hb
  unfold costA
  dsimp only
  omega
theorem cutA_le (s sep : ByteArray) : (cutA s sep).size ≤ s.size := by
  show (Go.Lib.cut (bl' s) (bl' sep)).1.length ≤ (bl' s).length
  unfold Go.Lib.cut
  split
  · rw [List.length_take]; omega
  · exact Nat.le_refl _
theorem cutR_le (s sep : ByteArray) : (cutR s sep).size ≤ s.size := by
  show (Go.Lib.cut (bl' s) (bl' sep)).2.1.length ≤ (bl' s).length
  unfold Go.Lib.cut
  split
  · simp only [List.length_drop]; omega
  · exact Nat.zero_le _
theorem trim_le (l p : List UInt8) : (Go.Lib.trimPrefix l p).length ≤ l.length := by
  unfold Go.Lib.trimPrefix
  split
  · rw [List.length_drop]; omega
  · exact Nat.le_refl _
theorem pq_le {c : UInt8} {s : ByteArray} (i : Nat) : ((cut c s).getD i ByteArray.empty).size ≤ s.size := by
  by_cases h : i < (cut c s).length
  · exact cut_le (getD_mem _ h)
  · rw [List.getD_eq_getElem?_getD, List.getElem?_eq_none (by omega)]
    exact Nat.zero_le _
theorem exits4 {a b x : Int} {B X : Prop} (hB : a < b → x ≤ 4 → B) (hX : ¬ (a < b ∧ x ≤ 4) → X) : (a < b → (x ≤ 4 → B) ∧ (4 < x → X)) ∧ (b ≤ a → X) :=
  ⟨fun h => ⟨hB h, fun g => hX (by omega)⟩, fun h => hX (by omega)⟩
theorem tl60 {s : ByteArray} : s.toList = [60] ↔ s = mkB [60] := by
  have h0 : (mkB [60]).toList = [60] := by rw [ByteArray.toList_eq]; rfl
  exact ⟨fun h => tl_inj.1 (h.trans h0.symm), fun h => by rw [h, h0]⟩
theorem numsS_len (w : List ByteArray) : (numsS w).length = w.length := List.length_map ..
theorem timesS_len (w : List ByteArray) : (timesS w).length = w.length := List.length_map ..
theorem numsI_len (w : List ByteArray) : (numsI w).length = w.length := List.length_map ..
theorem timesI_len (w : List ByteArray) : (timesI w).length = w.length := List.length_map ..
theorem z_atom {q : Atm × Bool} (h : q = (zA, false)) : 0 = q.1.1 ∧ { data := #[] } = q.1.2.1.1 ∧ q.1.2.1.2 = [] ∧ { data := #[] } = q.1.2.2.1.1 ∧ q.1.2.2.1.2 = [] ∧ q.1.2.2.2.1 = [] ∧ q.1.2.2.2.2.1 = [] ∧ 0 = q.1.2.2.2.2.2.1 ∧ q.1.2.2.2.2.2.2 = false ∧ q.2 = false := by
  subst h; exact ⟨rfl, rfl, rfl, rfl, rfl, rfl, rfl, rfl, rfl, rfl⟩
theorem z_lit {q : Ltr × Bool} (h : q = ((zA, false), false)) : 0 = q.1.1.1 ∧ { data := #[] } = q.1.1.2.1.1 ∧ q.1.1.2.1.2 = [] ∧ { data := #[] } = q.1.1.2.2.1.1 ∧ q.1.1.2.2.1.2 = [] ∧ q.1.1.2.2.2.1 = [] ∧ q.1.1.2.2.2.2.1 = [] ∧ 0 = q.1.1.2.2.2.2.2.1 ∧ q.1.1.2.2.2.2.2.2 = false ∧ q.1.2 = false ∧ q.2 = false := by
  subst h; exact ⟨rfl, rfl, rfl, rfl, rfl, rfl, rfl, rfl, rfl, rfl, rfl⟩
theorem nilT' : Is (AV.sl 0 2 fun i j => eT (Tree.mk ByteArray.empty []) j) (terms []) := (Enc.terms [] []).2 rfl
theorem nilI' : Is (AV.sl 0 1 fun i j => i64 0) (ints []) := (Enc.ints [] []).2 rfl
theorem pushN {l m : List Tm} {x : Nat} {t : TP} (hl : l.length = x) (hm : m = l ++ [tmT t]) : IsO (.arr (x + 1) 2 (joinC x (cT l) (rowsCell [[st t.1, terms t.2]]))) (arT m) := by
  subst hl; subst hm; exact terms_push
theorem pushN0 {l m : List Tm} {x : Nat} {c : Nat → Nat → AV} (hl : l.length = x) (hm : m = l ++ [tmT zT]) : IsO (.arr (x + 1) 2 (joinC x (cT l) (rowsCell [[st { data := #[] }, AV.lit 0 1 c]]))) (arT m) := by
  subst hl; subst hm
  exact IsO_join EncN.eT (IsR_row EncN.eT (Is_rowT (terms_nil.2 rfl)))
theorem pushI {l m : List Int} {x : Nat} {v : Int} (hl : l.length = x) (hm : m = l ++ [v]) : IsO (.arr (x + 1) 1 (joinC x (cI l) (rowsCell [[i64 v]]))) (arI m) := by
  subst hl; subst hm; exact ints_push
theorem allN {l m : List Tm} {x : Nat} (hl : l.length = x) (hm : l = m) : Is (.sl x 2 (cT l)) (terms m) := by
  subst hl; subst hm; exact (terms_take (Nat.le_refl _)).2 List.take_length
theorem allIn {l m : List Int} {x : Nat} (hl : l.length = x) (hm : l = m) : Is (.sl x 1 (cI l)) (ints m) := by
  subst hl; subst hm; exact (ints_take (Nat.le_refl _)).2 List.take_length
end Pl
namespace Cg
open Go Go.Proofs Pl
set_option maxHeartbeats 8000000 in
theorem g_l4Word (s : ByteArray) (a : Nat) (h1 : SzA s ∧ a ≤ s.size) : GoalW Tryz.prog [] (A_l4Word s a) K_l4Word.1 K_l4Word.2 ((s, a)) := GoalW.of (vc_l4Word s a) (by
  simp (maxSteps := 2000000) [-List.getD_eq_getElem?_getD, -List.mem_cons, -Bool.forall_bool, -Bool.exists_bool, and_assoc, peta, tl_inj, ex_1, ex_2, ex_3, ex_4, ex_5, ex_6, ex_7, ex_8, ex_9, ey_2, ey_3, ey_4, ey_5, ey_6, ey_7, ey_8, ey_9]
  simp only [byte_at]
  obtain ⟨hs, ha⟩ := h1
  have hs : s.size ≤ 1048576 := hs
  have hl : (bl' s).length = s.size := rfl
  refine ⟨⟨a, ha, rfl, rfl⟩, fun x hx he => exits (wl ((bl' s).drop x) = 0) (fun g a b => ⟨x + 1, by omega, by rw [← wl_step (by omega) (low_yes a b)]; exact he, by omega, wrap_small (by omega) (by omega)⟩) (fun g b => wl_stop (by omega) (low_no2 b)) (fun g b => wl_stop (by omega) (low_no1 b)) (fun g => wl_end (by omega)) fun h => by omega⟩)
theorem k_l4Word : SoundC Tryz.prog K_l4Word.1 K_l4Word.2 := sound_ofW hm CtxOK.nil (fun ((s, a) : ByteArray × Nat) => A_l4Word s a) (by kernel_rfl) fun ((s, a) : ByteArray × Nat) hb => g_l4Word s a hb
set_option maxHeartbeats 8000000 in
theorem g_l4Read (n : Nat) (s : ByteArray) (a d : Nat) (h1 : (SzA s ∧ a ≤ s.size ∧ d ≤ 4) ∧ d < n + 1) : GoalW Tryz.prog [K_l4Word, K_l4Read n] (A_l4Read s a d) (K_l4Read (n + 1)).1 (K_l4Read (n + 1)).2 ((s, a, d)) := GoalW.of (vc_l4Read n s a d) (by
  simp (maxSteps := 2000000) [-List.getD_eq_getElem?_getD, -List.mem_cons, -Bool.forall_bool, -Bool.exists_bool, and_assoc, peta, tl_inj, ex_1, ex_2, ex_3, ex_4, ex_5, ex_6, ex_7, ex_8, ex_9, ey_2, ey_3, ey_4, ey_5, ey_6, ey_7, ey_8, ey_9]
  simp only [byte_at, b40, b41, b44]
  obtain ⟨⟨hs, ha, h4⟩, hn⟩ := h1
  have hs : s.size ≤ 1048576 := hs
  have hl : (bl' s).length = s.size := rfl
  have hw := wl_le ((bl' s).drop a)
  rw [List.length_drop, hl] at hw
  have hwn := wname_size ((bl' s).drop a)
  have hx := ext_wname s a
  refine ⟨a, rfl, hs, ha, by omega, by omega, fun h0 => ?_, fun h0 => ?_⟩
  · rw [rdT_bad (.inl (by unfold badW; rw [if_pos rfl]; exact decide_eq_true (by omega)))]
    exact ⟨hx, rfl, rfl⟩
  have hb : badW true (wname ((bl' s).drop a)) = false := by unfold badW; rw [if_pos rfl]; exact decide_eq_false (by omega)
  refine ⟨fun hd => ?_, fun hd => ?_⟩
  · rw [rdT_bad (.inr (by omega))]
    exact ⟨hx, rfl, rfl⟩
  have hdd := List.drop_drop (l := bl' s) (i := wl ((bl' s).drop a)) (j := a)
  have po : ∀ q : Nat, q ≤ s.size → posn s (some ((bl' s).drop q)) = (q : Int) := fun q hq => by
    show ((s.size - ((bl' s).drop q).length : Nat) : Int) = _
    rw [List.length_drop, hl]
    omega
  refine ⟨fun hge => ?_, fun hlt => ⟨by omega, by omega, fun h40 => ?_, fun h40 => ⟨⟨a + wl ((bl' s).drop a), by omega, [], by simp, by omega, ?_, by omega, rfl, hx, rfl⟩, fun p ks hp hk hd0 hR => ?_⟩⟩⟩
  · rw [rdT_plain (by omega) hb (by rw [hdd]; exact openT_end (by omega))]
    exact ⟨hx, rfl, by rw [hdd, po _ (by omega)]; omega⟩
  · rw [rdT_plain (by omega) hb (by rw [hdd]; exact openT_no (by omega) h40)]
    exact ⟨hx, rfl, by rw [hdd, po _ (by omega)]; omega⟩
  · rw [rdT_open (by omega) hb (by rw [hdd]; exact openT_yes (by omega) h40), hdd]; rfl
  generalize rdT true d ((bl' s).drop a) = R at *
  generalize wname ((bl' s).drop a) = v at *
  have fail : R = failT true (v, ks) → v = R.1.1 ∧ ks = R.1.2 ∧ -1 = posn s R.2 := fun h => by rw [h]; exact ⟨rfl, rfl, rfl⟩
  refine exits2 (fun k1 k2 k3 => ?_) fun k => ⟨fun g => ?_, fun g => ⟨g, fun c => ?_, fun c => ?_⟩⟩
  · have hc := drop_cons (bl' s) (x := p) (by omega)
    rw [hc] at hR
    refine ⟨p + 1, wrap_small (by omega) (by omega), d - 1, by rw [wrap_small (by omega) (by omega)]; omega, hs, by omega, by omega, by omega, ?_⟩
    rcases posn_cases s true (d - 1) (p + 1) (by omega) with ⟨e1, e2⟩ | ⟨q, q1, q2, q3, q4, q5⟩
    · rw [e2]
      refine ⟨fun _ => fail (by rw [← hR, kidsR_none (by omega) k3 e1]), fun h => by omega⟩
    · rw [q4, Int.toNat_natCast]
      rw [kidsR_some (by omega) k3 q3] at hR
      have adv : sepOk true ((bl' s).drop q) = true → (ks.length + 1) * 40 ≤ 70368744177664 ∧ ∃ a, a ≤ s.size ∧ ∃ x : List Tm, x.length ≤ 3 ∧ 0 < d ∧ kidsR (rdT true (d - 1)) true v (3 - x.length) x (List.drop a (bl' s)) = R ∧ 3 - x.length < 3 - ks.length ∧ (q : Int) = (a : Int) ∧ ks.length + 1 = x.length ∧
          IsO (AObj.arr (ks.length + 1) 2 (joinC ks.length (cT ks) (rowsCell [[st (rdT true (d - 1) (List.drop (p + 1) (bl' s))).fst.fst, terms (rdT true (d - 1) (List.drop (p + 1) (bl' s))).fst.snd]]))) (arT x) := fun h => by
        rw [if_pos h] at hR
        refine ⟨by omega, q, q2, ks ++ [tmT (rdT true (d - 1) (List.drop (p + 1) (bl' s))).1], by rw [List.length_append]; simp; omega, hd0, ?_, by rw [List.length_append]; simp; omega, rfl, by simp, terms_push⟩
        rw [← hR, List.length_append]; rfl
      refine ⟨fun h => by omega, fun _ => ⟨fun h => ?_, fun h => ⟨by omega, by omega, fun n44 => ⟨by omega, by omega, fun n41 => ?_, fun y41 => adv ?_⟩, fun y44 => adv ?_⟩⟩⟩
      · rw [List.drop_of_length_le (show (bl' s).length ≤ q by omega), if_neg (by decide)] at hR
        exact fail hR.symm
      · have e := drop_cons (bl' s) (x := q) (by omega)
        rw [if_neg (by rw [e]; show ¬ (!true || decide ((bl' s).getD q 0 = 44) || decide ((bl' s).getD q 0 = 41)) = true; rw [decide_eq_false n44, decide_eq_false n41]; simp)] at hR
        exact fail hR.symm
      · rw [drop_cons (bl' s) (x := q) (by omega), y41]; exact sep41 _ _
      · rw [drop_cons (bl' s) (x := q) (by omega), y44]; exact sep44 _ _
  · rw [List.drop_of_length_le (by omega), kidsR_nil] at hR
    exact fail hR.symm
  · rw [drop_cons (bl' s) (x := p) (by omega)] at hR
    rw [kidsR_zero (by have : ¬ ks.length ≤ 2 := fun h => c (k h g)
                       omega) c] at hR
    exact fail hR.symm
  · rw [drop_cons (bl' s) (x := p) (by omega), c, kidsR_close] at hR
    rw [← hR, po _ (by omega), wrap_small (by omega) (by omega)]
    exact ⟨rfl, rfl, by omega⟩)
theorem k_l4Read (n : Nat) : SoundC Tryz.prog (K_l4Read n).1 (K_l4Read n).2 := by
  induction n with
  | zero => exact sound_of hm CtxOK.nil (fun _ => []) (by kernel_rfl) fun x h => absurd h.2 (Nat.not_lt_zero _)
  | succ n ih => exact sound_ofW hm ((CtxOK.nil.and (K := K_l4Read n) ih).and k_l4Word) (fun ((s, a, d) : ByteArray × Nat × Nat) => A_l4Read s a d) (by kernel_rfl) fun ((s, a, d) : ByteArray × Nat × Nat) hb => g_l4Read n s a d hb
theorem k_lRead : SoundC Tryz.prog K_lRead.1 K_lRead.2 := SoundC.famI (fun x : ByteArray × Nat × Nat => x.2.2) fun n => k_l4Read n
set_option maxHeartbeats 8000000 in
theorem g_readTerm (n : Nat) (s : ByteArray) (d : Nat) (h1 : (SzA s ∧ d ≤ 4) ∧ d < n + 1) : GoalW Tryz.prog [K_iNameOk, K_HasPrefix, K_readTerm n] (A_readTerm s d) (K_readTerm (n + 1)).1 (K_readTerm (n + 1)).2 ((s, d)) := GoalW.of (vc_readTerm n s d) (by
  simp (maxSteps := 2000000) [-List.getD_eq_getElem?_getD, -List.mem_cons, -Bool.forall_bool, -Bool.exists_bool, and_assoc, peta, tl_inj, ex_1, ex_2, ex_3, ex_4, ex_5, ex_6, ex_7, ex_8, ex_9, ey_2, ey_3, ey_4, ey_5, ey_6, ey_7, ey_8, ey_9]
  simp only [byte_at, b40, b41, b44, pre_one]
  obtain ⟨⟨hs, h4⟩, hn⟩ := h1
  have hs : s.size ≤ 1048576 := hs
  have hl : (bl' s).length = s.size := rfl
  have hw := wl_le (bl' s)
  rw [hl] at hw
  have hwn := wname_size (bl' s)
  have hx : s.extract 0 (wl (bl' s)) = wname (bl' s) := by rw [ext_mk]; rfl
  refine ⟨⟨0, Nat.zero_le _, by rw [List.drop_zero]; omega, rfl, rfl⟩, fun x hx1 he => exits (wl ((bl' s).drop x) = 0) (fun g a b => ⟨x + 1, by omega, by rw [← wl_step (by omega) (low_yes a b)]; exact he, by omega, wrap_small (by omega) (by omega)⟩) (fun g b => wl_stop (by omega) (low_no2 b)) (fun g b => wl_stop (by omega) (low_no1 b)) (fun g => wl_end (by omega)) fun h0 => ?_⟩
  rw [h0, Nat.add_zero] at he
  subst he
  rw [hx, ext_rest]
  have fail0 : (badW false (wname (bl' s)) = true ∨ d = 0) → { data := #[] } = (rdT false d (bl' s)).1.1 ∧ (rdT false d (bl' s)).1.2 = [] ∧ { data := #[] } = restB (rdT false d (bl' s)).2 ∧ (rdT false d (bl' s)).2 = none := fun h => by
    rw [rdT_bad h]; exact ⟨rfl, rfl, rfl, rfl⟩
  refine ⟨hx1, fun h => fail0 (.inr (by omega)), fun h => ⟨by omega, fun hb => fail0 (.inl (by unfold badW; rw [if_neg (by simp), hb]; rfl)), fun hb => ?_⟩⟩
  have hbw : badW false (wname (bl' s)) = false := by unfold badW; rw [if_neg (by simp), hb]; rfl
  refine ⟨by omega, fun ho => ?_, fun ho => ⟨⟨(bl' s).drop (wl (bl' s)), by rw [List.length_drop]; omega, [], by simp, by omega, ?_, rfl, rfl, rfl⟩, fun r ks hp hk hd0 hR => ?_⟩⟩
  · rw [pre_one] at ho
    rw [rdT_plain (by omega) hbw ho]; exact ⟨rfl, rfl, rfl, rfl⟩
  · rw [pre_one] at ho
    rw [rdT_open (by omega) hbw ho]; rfl
  generalize rdT false d (bl' s) = R at *
  generalize wname (bl' s) = v at *
  have fail : R = failT false (v, ks) → { data := #[] } = R.1.1 ∧ R.1.2 = [] ∧ { data := #[] } = restB R.2 ∧ R.2 = none := fun h => by rw [h]; exact ⟨rfl, rfl, rfl, rfl⟩
  refine exits3 (fun k => ?_) (fun k1 k2 k3 => ?_) fun k => ⟨by omega, fun g => ?_, fun g => ?_⟩
  · cases r with
    | nil => exact absurd (by rw [ByteArray.toList_eq]; rfl) k
    | cons c r => simp
  · have hr : ∃ c r', r = c :: r' := by
      cases r with
      | nil => exact absurd (by rw [ByteArray.toList_eq]; rfl) k2
      | cons c r => exact ⟨c, r, rfl⟩
    obtain ⟨c, r, rfl⟩ := hr
    have k3 : ¬ c = 41 := k3
    have hex : (mkB (c :: r)).extract 1 (c :: r).length = mkB r := by rw [ext_mk]; simp [bl_mk]
    simp only [List.length_cons] at hp ⊢
    simp only [List.length_cons] at hex
    rw [hex]
    simp only [bl_mk]
    refine ⟨by omega, d - 1, by rw [wrap_small (by omega) (by omega)]; omega, by omega, by omega, by omega, fun h => ?_, fun h => ?_⟩
    · rw [kidsR_none (by omega) k3 h] at hR; exact fail hR.symm
    · obtain ⟨b, hb⟩ := Option.isSome_iff_exists.1 h
      rw [kidsR_some (by omega) k3 hb, if_pos (by unfold sepOk; split <;> rfl)] at hR
      obtain ⟨j, j1, j2, j3⟩ := rdT_good false _ _ _ hb
      refine ⟨by omega, b, by rw [j2, List.length_drop]; omega, ks ++ [tmT (rdT false (d - 1) r).1], by rw [List.length_append]; simp; omega, hd0, ?_, by rw [List.length_append]; simp; omega, by rw [hb]; rfl, by simp, terms_push⟩
      rw [← hR, List.length_append]; rfl
  · refine fail ?_
    rw [← hR]
    cases r with
    | nil => exact kidsR_nil _
    | cons c r =>
      have hc : ¬ c = 41 := fun e => by subst e; cases g
      refine kidsR_zero ?_ hc
      have : ¬ ks.length < 2 := fun h => hc (k h (by rw [ByteArray.toList_eq]; intro h; cases h))
      omega
  · cases r with
    | nil => cases g
    | cons c r =>
      have hc : c = 41 := by simpa using g
      subst hc
      rw [kidsR_close] at hR
      rw [← hR]
      have hex : (mkB (41 :: r)).extract 1 (41 :: r).length = mkB r := by rw [ext_mk]; simp [bl_mk]
      exact ⟨by simp; omega, rfl, rfl, hex, rfl⟩)
theorem k_readTerm (n : Nat) : SoundC Tryz.prog (K_readTerm n).1 (K_readTerm n).2 := by
  induction n with
  | zero => exact sound_of hm CtxOK.nil (fun _ => []) (by kernel_rfl) fun x h => absurd h.2 (Nat.not_lt_zero _)
  | succ n ih => exact sound_ofW hm (((CtxOK.nil.and (K := K_readTerm n) ih).and k_HasPrefix).and k_iNameOk) (fun ((s, d) : ByteArray × Nat) => A_readTerm s d) (by kernel_rfl) fun ((s, d) : ByteArray × Nat) hb => g_readTerm n s d hb
theorem k_rTerm : SoundC Tryz.prog K_rTerm.1 K_rTerm.2 := SoundC.famI (fun x : ByteArray × Nat => x.2) fun n => k_readTerm n
set_option maxHeartbeats 8000000 in
theorem g_sTermText (x : TP) (h1 : SmT (.mk x.1 x.2)) : GoalW Tryz.prog [K_l4Right, K_lText] ([]) K_sTermText.1 K_sTermText.2 (x) := GoalW.of (vc_sTermText x) (by
  simp (maxSteps := 2000000) [-List.getD_eq_getElem?_getD, -List.mem_cons, -Bool.forall_bool, -Bool.exists_bool, and_assoc, peta, tl_inj, ex_1, ex_2, ex_3, ex_4, ex_5, ex_6, ex_7, ex_8, ex_9, ey_2, ey_3, ey_4, ey_5, ey_6, ey_7, ey_8, ey_9]
  refine ⟨h1, fun h => ?_, fun h => ⟨h1, ?_⟩⟩
  · rw [h]; rfl
  · rw [h, tx_yes rfl]; rfl)
theorem k_sTermText : SoundC Tryz.prog K_sTermText.1 K_sTermText.2 := sound_ofW hm ((CtxOK.nil.and k_lText).and k_l4Right) (fun (x : TP) => []) (by kernel_rfl) fun (x : TP) hb => g_sTermText x hb
set_option maxHeartbeats 8000000 in
theorem g_sTermRead (s : ByteArray) (h1 : SzA s) : GoalW Tryz.prog [K_lRead, K_sTermText] ([]) K_sTermRead.1 K_sTermRead.2 (s) := GoalW.of (vc_sTermRead s) (by
  simp (maxSteps := 2000000) [-List.getD_eq_getElem?_getD, -List.mem_cons, -Bool.forall_bool, -Bool.exists_bool, and_assoc, peta, tl_inj, ex_1, ex_2, ex_3, ex_4, ex_5, ex_6, ex_7, ex_8, ex_9, ey_2, ey_3, ey_4, ey_5, ey_6, ey_7, ey_8, ey_9]
  have hs : s.size ≤ 1048576 := h1
  refine ⟨0, rfl, 4, rfl, hs, Nat.zero_le _, by omega, ?_⟩
  rw [List.drop_zero]
  have hz : ∀ y, tmRd s = (zT, y) → y = false → { data := #[] } = (tmRd s).fst.fst ∧ (tmRd s).fst.snd = [] ∧ (tmRd s).snd = false := fun y e hy => by rw [e]; exact ⟨rfl, rfl, hy⟩
  have e := tmRd_S (s := s) rfl
  refine ⟨fun h => hz _ (by rw [e, if_neg fun g => h g.1]) rfl, fun h => ⟨fun g => hz _ (by rw [e, if_neg fun q => q.2.1 ((tl_inj).1 (by rw [g, ByteArray.toList_eq]; rfl))]) rfl, fun g => ?_⟩⟩
  have hc : costT (.mk (rdT true 4 (bl' s)).1.1 (rdT true 4 (bl' s)).1.2) ≤ s.size := by
    rcases posn_cases s true 4 0 (Nat.zero_le _) with ⟨_, e2⟩ | ⟨q, _, q2, _, _, q5⟩
    · rw [List.drop_zero] at e2; omega
    · rw [List.drop_zero] at q5
      have : costT (tmT (rdT true 4 (bl' s)).1) ≤ s.size := by omega
      exact this
  refine ⟨by omega, fun q => hz _ (by rw [e, if_neg fun r => q r.2.2]) rfl, fun q => ?_⟩
  rw [e, if_pos ⟨h, fun e0 => g (by rw [e0, ByteArray.toList_eq]; rfl), q⟩]
  exact ⟨rfl, rfl, rfl⟩)
set_option maxHeartbeats 8000000 in
theorem g_iTermRead (s : ByteArray) (h1 : SzA s) : GoalW Tryz.prog [K_rTerm, K_isTerm, K_tText] ([]) K_iTermRead.1 K_iTermRead.2 (s) := GoalW.of (vc_iTermRead s) (by
  simp (maxSteps := 2000000) [-List.getD_eq_getElem?_getD, -List.mem_cons, -Bool.forall_bool, -Bool.exists_bool, and_assoc, peta, tl_inj, ex_1, ex_2, ex_3, ex_4, ex_5, ex_6, ex_7, ex_8, ex_9, ey_2, ey_3, ey_4, ey_5, ey_6, ey_7, ey_8, ey_9]
  have hs : s.size ≤ 1048576 := h1
  refine ⟨4, rfl, hs, by omega, ?_⟩
  have hz : ∀ y, tmRd s = (zT, y) → y = false → { data := #[] } = (tmRd s).fst.fst ∧ (tmRd s).fst.snd = [] ∧ (tmRd s).snd = false := fun y e hy => by rw [e]; exact ⟨rfl, rfl, hy⟩
  have e := tmRd_I (s := s) rfl
  refine ⟨fun h => hz _ (by rw [e, if_neg fun g => by rw [h] at g; cases g.1]) rfl, fun h => ?_⟩
  obtain ⟨r, hr⟩ := Option.isSome_iff_exists.1 h
  obtain ⟨j, j1, j2, j3⟩ := rdT_good false _ _ _ hr
  have hl : (bl' s).length = s.size := rfl
  have hc : costT (.mk (rdT false 4 (bl' s)).1.1 (rdT false 4 (bl' s)).1.2) ≤ s.size := by
    have : costT (tmT (rdT false 4 (bl' s)).1) ≤ s.size := by omega
    exact this
  have hn : (restB (rdT false 4 (bl' s)).2).toList = [] ↔ r = [] := by
    rw [hr, ByteArray.toList_eq]; exact Iff.rfl
  rw [hn]
  refine ⟨fun g => hz _ (by rw [e, if_neg fun q => g (by rw [hr] at q; exact Option.some.inj q.1)]) rfl, fun g => ⟨by omega, fun q => hz _ (by rw [e, if_neg fun p => by rw [q] at p; cases p.2.1]) rfl, fun q => ⟨by omega, fun t => hz _ (by rw [e, if_neg fun p => t p.2.2]) rfl, fun t => ?_⟩⟩⟩
  rw [e, if_pos ⟨by rw [hr, g], q, t⟩]
  exact ⟨rfl, rfl, rfl⟩)
theorem k_sTermRead : SoundC Tryz.prog K_sTermRead.1 K_sTermRead.2 := sound_ofW hm ((CtxOK.nil.and k_sTermText).and k_lRead) (fun (s : ByteArray) => []) (by kernel_rfl) fun (s : ByteArray) hb => g_sTermRead s hb
theorem k_iTermRead : SoundC Tryz.prog K_iTermRead.1 K_iTermRead.2 := sound_ofW hm (((CtxOK.nil.and k_tText).and k_isTerm).and k_rTerm) (fun (s : ByteArray) => []) (by kernel_rfl) fun (s : ByteArray) hb => g_iTermRead s hb
set_option maxHeartbeats 8000000 in
theorem g_l6Scan (s : ByteArray) (h1 : SzA s) : GoalW Tryz.prog [K_l16Cut, K_l16Num, K_sTermRead] (A_l6Scan s) K_l6Scan.1 K_l6Scan.2 (s) := GoalW.of (vc_l6Scan s) (by
  simp (maxSteps := 2000000) [-List.getD_eq_getElem?_getD, -List.mem_cons, -Bool.forall_bool, -Bool.exists_bool, and_assoc, peta, tl_inj, ex_1, ex_2, ex_3, ex_4, ex_5, ex_6, ex_7, ex_8, ex_9, ey_2, ey_3, ey_4, ey_5, ey_6, ey_7, ey_8, ey_9]
  have hs : s.size ≤ 1048576 := h1
  have hp := cut_ne 32 s
  refine ⟨32, rfl, by omega, ⟨0, by omega, rfl, rfl, rfl, rfl, rfl, rfl, rfl⟩, fun x hx => ?_⟩
  have hlen : (cut 32 s).length ≤ s.size + 1 := cut_len 32 s
  rw [wrap_small (x := (x : Int) + 2) (by omega) (by omega)]
  have hl1 : (numsS ((cut 32 s).take x)).length = x := by rw [numsS_len, List.length_take]; omega
  have hl2 : (timesS ((cut 32 s).take x)).length = x := by rw [timesS_len, List.length_take]; omega
  refine exits4 (fun k1 k2 => ?_) fun k => ?_
  · have q1 := pq_le (c := 32) (s := s) x
    have q2 := fun i => pq_le (c := 42) (s := (cut 32 s).getD x ByteArray.empty) i
    have q3 := cut_ne 42 ((cut 32 s).getD x ByteArray.empty)
    have hsn := take_snoc ByteArray.empty (l := cut 32 s) (i := x) (by omega)
    have hm2 : timesS ((cut 32 s).take (x + 1)) = timesS ((cut 32 s).take x) ++ [(num ((cut 42 ((cut 32 s).getD x ByteArray.empty)).getD 0 ByteArray.empty)).1] := by
      unfold timesS; rw [hsn, List.map_append]; rfl
    refine ⟨by omega, 42, rfl, by omega, q3, by have := q2 0; omega, fun h1 => ⟨by omega, by omega, by have := q2 1; omega, by omega, by omega, by omega, by omega, by omega, by omega, wrap_small (by omega) (by omega), pushN hl1 ?_, pushI hl2 hm2⟩, fun h1 => ⟨by omega, by omega, by omega, by omega, by omega, by omega, wrap_small (by omega) (by omega), pushN0 hl1 ?_, pushI hl2 hm2⟩⟩
    · unfold numsS; rw [hsn, List.map_append]
      show _ ++ [tmT (scanT _)] = _
      unfold scanT
      rw [if_pos (by omega)]; rfl
    · unfold numsS; rw [hsn, List.map_append]
      show _ ++ [tmT (scanT _)] = _
      unfold scanT
      rw [if_neg (by omega)]
  · have hxm : x = min ((cut 32 s).length - 2) 5 := by omega
    refine ⟨fun h2 => ?_, fun h2 => ⟨by omega, by omega, rfl, allN hl1 (by rw [hxm]), allIn hl2 (by rw [hxm]), ?_, ?_⟩⟩
    · have e2 : IntKind.i64.wrap (((cut 32 s).length : Int) - 2) = (((cut 32 s).length - 2 : Nat) : Int) := by rw [wrap_small (by omega) (by omega)]; omega
      have e1 : IntKind.i64.wrap (((cut 32 s).length : Int) - 1) = (((cut 32 s).length - 1 : Nat) : Int) := by rw [wrap_small (by omega) (by omega)]; omega
      rw [e1, e2]
      simp only [Int.toNat_natCast]
      have := pq_le (c := 32) (s := s) ((cut 32 s).length - 1)
      refine ⟨by omega, by omega, by omega, by omega, by omega, by omega, by omega, by omega, by omega, rfl, allN hl1 (by rw [hxm]), allIn hl2 (by rw [hxm]), ?_, ?_⟩
      · unfold boundS; rw [if_pos (by omega)]; rfl
      · unfold strictS
        rw [decide_eq_true (by omega), Bool.true_and, Bool.eq_iff_iff, beq_iff_eq, decide_eq_true_eq, tl60]; rfl
    · unfold boundS; rw [if_neg (by omega)]
    · unfold strictS; rw [decide_eq_false (by omega)]; rfl)
set_option maxHeartbeats 8000000 in
theorem g_sAtomRead (s : ByteArray) (h1 : SzA s) : GoalW Tryz.prog [K_l16Cut, K_l6Scan, K_sTermRead, K_sAtomText] ([]) K_sAtomRead.1 K_sAtomRead.2 (s) := GoalW.of (vc_sAtomRead s) (by
  simp (maxSteps := 2000000) [-List.getD_eq_getElem?_getD, -List.mem_cons, -Bool.forall_bool, -Bool.exists_bool, and_assoc, peta, tl_inj, ex_1, ex_2, ex_3, ex_4, ex_5, ex_6, ex_7, ex_8, ex_9, ey_2, ey_3, ey_4, ey_5, ey_6, ey_7, ey_8, ey_9]
  have hs : s.size ≤ 1048576 := h1
  have hem : s.toList = [] ↔ s = ByteArray.empty := ⟨fun h => tl_inj.1 (by rw [h, ByteArray.toList_eq]; rfl), fun h => by rw [h, ByteArray.toList_eq]; rfl⟩
  rw [hem]
  have e : atomReadS s = if ¬ s = ByteArray.empty ∧ tx (atomRight (atomScan s)) (atomB (atomScan s)) = s then (atomScan s, true) else (zA, false) := rfl
  have q := fun i => pq_le (c := 61) (s := s) i
  have c0 : costA (sumScan s) ≤ 1048576 := sum_cost (by decide) (by decide) (by rw [numsS_len, List.length_take]; omega) (by have := costTs_map _ scanT_cost ((cut 32 s).take (min ((cut 32 s).length - 2) 5)); rw [List.length_take] at this; unfold numsS; omega) (by rw [timesS_len, List.length_take]; omega)
  have c1 : costA (eqScan s) ≤ 1048576 := sum_cost (tmRd_cost _) (tmRd_cost _) (Nat.zero_le _) (Nat.zero_le _) (Nat.zero_le _)
  refine ⟨61, rfl, by omega, hs, fun h2 => ⟨32, rfl, by omega, fun h3 => ?_, fun h3 => ?_⟩, fun h2 => ?_⟩
  · have ea : atomScan s = eqScan s := by unfold atomScan; rw [if_pos ⟨by omega, by omega⟩]
    refine ⟨by omega, by have := q 0; omega, by omega, by omega, by have := q 1; omega, fun h => z_atom (by rw [e, if_neg fun g => g.1 h]), fun h => ⟨c1, fun g => z_atom (by rw [e, if_neg fun k => g (by have := k.2; rw [ea] at this; exact this)]), fun g => ?_⟩⟩
    rw [e, if_pos ⟨h, by rw [ea]; exact g⟩, ea]
    exact ⟨rfl, rfl, rfl, rfl, rfl, rfl, rfl, rfl, rfl, rfl⟩
  all_goals
    have ea : atomScan s = sumScan s := by unfold atomScan; rw [if_neg (by omega)]
    refine ⟨fun h => z_atom (by rw [e, if_neg fun g => g.1 h]), fun h => ⟨[], nilT', [], nilT', c0, fun g => z_atom (by rw [e, if_neg fun k => g (by have := k.2; rw [ea] at this; exact this)]), fun g => ?_⟩⟩
    rw [e, if_pos ⟨h, by rw [ea]; exact g⟩, ea]
    exact ⟨rfl, rfl, nilT', rfl, nilT', rfl, rfl, rfl, rfl, rfl⟩)
set_option maxHeartbeats 8000000 in
theorem g_readEq (s : ByteArray) (h1 : SzA s) : GoalW Tryz.prog [K_Cut, K_iTermRead] ([]) K_readEq.1 K_readEq.2 (s) := GoalW.of (vc_readEq s) (by
  simp (maxSteps := 2000000) [-List.getD_eq_getElem?_getD, -List.mem_cons, -Bool.forall_bool, -Bool.exists_bool, and_assoc, peta, tl_inj, ex_1, ex_2, ex_3, ex_4, ex_5, ex_6, ex_7, ex_8, ex_9, ey_2, ey_3, ey_4, ey_5, ey_6, ey_7, ey_8, ey_9]
  have hs : s.size ≤ 1048576 := h1
  have l1 := cutA_le s eqSgn
  have l2 := cutR_le s eqSgn
  have e : eqK s = (cutK s eqSgn && (tmRd (cutA s eqSgn)).2 && (tmRd (cutR s eqSgn)).2) := rfl
  refine ⟨by omega, Nat.le_trans l1 hs, Nat.le_trans l2 hs, fun k => ⟨fun a => ⟨rfl, rfl, rfl, rfl, ?_⟩, fun a => ⟨rfl, rfl, rfl, rfl, ?_⟩⟩, fun k => ⟨rfl, rfl, rfl, rfl, ?_⟩⟩
  · rw [e, show cutK s eqSgn = true from k, show (tmRd (cutA s eqSgn)).2 = true from a]; rfl
  · rw [e, show (tmRd (cutA s eqSgn)).2 = false from a, Bool.and_false]; rfl
  · rw [e, show cutK s eqSgn = false from k]; rfl)
set_option maxHeartbeats 8000000 in
theorem g_readSum (s : ByteArray) (h1 : SzA s) : GoalW Tryz.prog [K_Split, K_within, K_Atoi, K_Cut, K_iTermRead] (A_readSum s) K_readSum.1 K_readSum.2 (s) := GoalW.of (vc_readSum s) (by
  simp (maxSteps := 2000000) [-List.getD_eq_getElem?_getD, -List.mem_cons, -Bool.forall_bool, -Bool.exists_bool, and_assoc, peta, tl_inj, ex_1, ex_2, ex_3, ex_4, ex_5, ex_6, ex_7, ex_8, ex_9, ey_2, ey_3, ey_4, ey_5, ey_6, ey_7, ey_8, ey_9]
  have hs : s.size ≤ 1048576 := h1
  have hp := cut_ne 32 s
  have hlen : (cut 32 s).length ≤ s.size + 1 := cut_len 32 s
  refine ⟨32, rfl, by omega, ?_⟩
  have e1 : IntKind.i64.wrap (((cut 32 s).length : Int) - 1) = (((cut 32 s).length - 1 : Nat) : Int) := by rw [wrap_small (by omega) (by omega)]; omega
  have e2 : IntKind.i64.wrap ((((cut 32 s).length - 1 : Nat) : Int) - 1) = ((cut 32 s).length : Int) - 2 := by rw [wrap_small (by omega) (by omega)]; omega
  rw [e1, e2]
  have hw : withinI (((cut 32 s).length : Int) - 2) 1 4 = true ↔ 3 ≤ (cut 32 s).length ∧ (cut 32 s).length ≤ 6 := by
    unfold withinI
    simp
    omega
  refine ⟨fun h => z_atom ?_, fun h => ?_⟩
  · unfold sumI
    rw [if_neg fun g => by rw [hw.2 g.1] at h; cases h]
  obtain ⟨h3, h6⟩ := hw.1 h
  have e3 : (((cut 32 s).length : Int) - 2).toNat = (cut 32 s).length - 2 := by omega
  rw [e3]
  simp only [Int.toNat_natCast]
  have hp1 := pq_le (c := 32) (s := s) ((cut 32 s).length - 1)
  refine ⟨by omega, by omega, by omega, by omega, by omega, by omega, by omega, by omega, by omega, ⟨0, by omega, h3, h6, rfl, (strs_take (by omega)).2 rfl, by omega, rfl, rfl, rfl, rfl, ?_, rfl, rfl⟩, fun x hx _ _ ha => ⟨fun hlt => ?_, fun hge => ?_⟩⟩
  · rw [Bool.eq_iff_iff, beq_iff_eq, decide_eq_true_eq, tl60]; rfl
  · have hl1 : (numsI ((cut 32 s).take x)).length = x := by rw [numsI_len, List.length_take]; omega
    have hl2 : (timesI ((cut 32 s).take x)).length = x := by rw [timesI_len, List.length_take]; omega
    have eg : ((cut 32 s).take ((cut 32 s).length - 2)).getD x ByteArray.empty = (cut 32 s).getD x ByteArray.empty := by
      simp only [List.getD_eq_getElem?_getD]
      rw [List.getElem?_take, if_pos hlt]
    rw [eg]
    have q1 := pq_le (c := 32) (s := s) x
    have q2 := cutA_le ((cut 32 s).getD x ByteArray.empty) mulSgn
    have q3 := cutR_le ((cut 32 s).getD x ByteArray.empty) mulSgn
    have hsn := take_snoc ByteArray.empty (l := cut 32 s) (i := x) (by omega)
    refine ⟨hlt, by omega, Nat.le_trans q2 (by omega), Nat.le_trans q3 (by omega), fun h => z_atom ?_, fun h => ⟨by omega, by omega, by omega, by omega, by omega, h3, h6, ?_, by omega, wrap_small (by omega) (by omega), pushN hl1 ?_, pushI hl2 ?_⟩⟩
    · unfold sumI
      rw [if_neg fun g => ?_]
      have := List.all_eq_true.1 g.2 ((cut 32 s).getD x ByteArray.empty) (by rw [← eg]; exact getD_mem _ (by rw [List.length_take]; omega))
      rw [show (tmRd (cutR ((cut 32 s).getD x ByteArray.empty) mulSgn)).2 = false from h] at this
      cases this
    · unfold allI at ha ⊢
      rw [hsn, List.all_append, ha, Bool.true_and]
      show ((tmRd (cutR ((cut 32 s).getD x ByteArray.empty) mulSgn)).2 && true) = true
      rw [show (tmRd (cutR ((cut 32 s).getD x ByteArray.empty) mulSgn)).2 = true from h]; rfl
    · unfold numsI; rw [hsn, List.map_append]; rfl
    · unfold timesI; rw [hsn, List.map_append]; rfl
  · have hxe : x = (cut 32 s).length - 2 := by omega
    have es : sumI s = (sumW (cut 32 s), true) := by
      unfold sumI; rw [if_pos ⟨⟨h3, h6⟩, by rw [← hxe]; exact ha⟩]
    have hl1 : (numsI ((cut 32 s).take x)).length = x := by rw [numsI_len, List.length_take]; omega
    have hl2 : (timesI ((cut 32 s).take x)).length = x := by rw [timesI_len, List.length_take]; omega
    rw [es]
    exact ⟨by omega, by omega, rfl, rfl, rfl, rfl, rfl, allN hl1 (by rw [hxe]; rfl), allIn hl2 (by rw [hxe]; rfl), rfl, rfl, rfl⟩)
set_option maxHeartbeats 8000000 in
theorem g_iAtomRead (s : ByteArray) (h1 : SzA s) : GoalW Tryz.prog [K_readEq, K_readSum, K_Atomok, K_atomText] ([]) K_iAtomRead.1 K_iAtomRead.2 (s) := GoalW.of (vc_iAtomRead s) (by
  simp (maxSteps := 2000000) [-List.getD_eq_getElem?_getD, -List.mem_cons, -Bool.forall_bool, -Bool.exists_bool, and_assoc, peta, tl_inj, ex_1, ex_2, ex_3, ex_4, ex_5, ex_6, ex_7, ex_8, ex_9, ey_2, ey_3, ey_4, ey_5, ey_6, ey_7, ey_8, ey_9]
  have hs : s.size ≤ 1048576 := h1
  have e : atomReadI s = if (atomI s).2 = true ∧ atomRight (atomI s).1 = true ∧ mkB (atomB (atomI s).1) = s then ((atomI s).1, true) else (zA, false) := rfl
  have c0 : costA (sumI s).1 ≤ 1048576 := by
    unfold sumI
    split
    · rename_i h
      exact sum_cost (by decide) (by decide) (by rw [numsI_len, List.length_take]; omega) (by have := costTs_map (fun p => tmT (tmRd (cutR p mulSgn)).1) (fun p => tmRd_cost _) ((cut 32 s).take ((cut 32 s).length - 2)); rw [List.length_take] at this; unfold numsI; omega) (by rw [timesI_len, List.length_take]; omega)
    · decide
  have c1 : costA (eqI s) ≤ 1048576 := sum_cost (tmRd_cost _) (tmRd_cost _) (Nat.zero_le _) (Nat.zero_le _) (Nat.zero_le _)
  refine ⟨hs, fun k => ⟨hs, fun h => ?_, fun h => ⟨c0, fun g => ?_, fun g => ⟨c0, g, fun t => ?_, fun t => ?_⟩⟩⟩, fun k => ⟨fun k' => absurd (k.symm.trans k') (by simp), fun _ => ⟨[], nilT', [], nilI', c1, fun g => ?_, fun g => ⟨[], nilT', [], nilI', c1, g, fun t => ?_, fun t => ?_⟩⟩⟩⟩
  · have ea : atomI s = sumI s := by unfold atomI; rw [if_neg (by rw [k]; simp)]
    exact z_atom (by rw [e, if_neg fun q => by rw [ea, h] at q; cases q.1])
  · have ea : atomI s = sumI s := by unfold atomI; rw [if_neg (by rw [k]; simp)]
    exact z_atom (by rw [e, if_neg fun q => by rw [ea, g] at q; cases q.2.1])
  · have ea : atomI s = sumI s := by unfold atomI; rw [if_neg (by rw [k]; simp)]
    exact z_atom (by rw [e, if_neg fun q => by rw [ea] at q; exact t q.2.2])
  · have ea : atomI s = sumI s := by unfold atomI; rw [if_neg (by rw [k]; simp)]
    rw [e, if_pos (by rw [ea]; exact ⟨h, g, t⟩), ea]
    exact ⟨rfl, rfl, rfl, rfl, rfl, rfl, rfl, rfl, rfl, rfl⟩
  · have ea : atomI s = (eqI s, true) := by unfold atomI; rw [if_pos k]
    exact z_atom (by rw [e, if_neg fun q => by rw [ea] at q; rw [show atomRight (eqI s) = false from g] at q; cases q.2.1])
  · have ea : atomI s = (eqI s, true) := by unfold atomI; rw [if_pos k]
    exact z_atom (by rw [e, if_neg fun q => by rw [ea] at q; exact t q.2.2])
  · have ea : atomI s = (eqI s, true) := by unfold atomI; rw [if_pos k]
    rw [e, if_pos (by rw [ea]; exact ⟨rfl, g, t⟩), ea]
    exact ⟨rfl, rfl, rfl, rfl, rfl, nilT', nilI', rfl, rfl, rfl⟩)
set_option maxHeartbeats 8000000 in
theorem g_iLitRead (s : ByteArray) (h1 : SzA s) : GoalW Tryz.prog [K_CutPrefix, K_iAtomRead] ([]) K_iLitRead.1 K_iLitRead.2 (s) := GoalW.of (vc_iLitRead s) (by
  simp (maxSteps := 2000000) [-List.getD_eq_getElem?_getD, -List.mem_cons, -Bool.forall_bool, -Bool.exists_bool, and_assoc, peta, tl_inj, ex_1, ex_2, ex_3, ex_4, ex_5, ex_6, ex_7, ex_8, ex_9, ey_2, ey_3, ey_4, ey_5, ey_6, ey_7, ey_8, ey_9]
  have hs : s.size ≤ 1048576 := h1
  have e : litReadI s = litOf (Go.Lib.hasPrefix (bl' s) (bl' notSgn)) (atomReadI (mkB (Go.Lib.trimPrefix (bl' s) (bl' notSgn)))) := rfl
  have hl := trim_le (bl' s) (bl' notSgn)
  refine ⟨by omega, Nat.le_trans hl hs, fun h => z_lit ?_, fun h => ?_⟩
  · rw [e]; unfold litOf; rw [if_neg (by show ¬ (atomReadI (mkB (Go.Lib.trimPrefix (bl' s) (bl' { data := #[110, 111, 116, 32] })))).2 = true; rw [h]; simp)]
  · have e2 : litReadI s = (((atomReadI (mkB (Go.Lib.trimPrefix (bl' s) (bl' { data := #[110, 111, 116, 32] })))).1, Go.Lib.hasPrefix (bl' s) (bl' { data := #[110, 111, 116, 32] })), true) := by
      rw [e]; unfold litOf; exact if_pos h
    rw [e2]
    exact ⟨rfl, rfl, rfl, rfl, rfl, rfl, rfl, rfl, rfl, rfl, rfl⟩)
set_option maxHeartbeats 8000000 in
theorem g_sLitRead (s : ByteArray) (h1 : SzA s) : GoalW Tryz.prog [K_sAtomRead] ([]) K_sLitRead.1 K_sLitRead.2 (s) := GoalW.of (vc_sLitRead s) (by
  simp (maxSteps := 2000000) [-List.getD_eq_getElem?_getD, -List.mem_cons, -Bool.forall_bool, -Bool.exists_bool, and_assoc, peta, tl_inj, ex_1, ex_2, ex_3, ex_4, ex_5, ex_6, ex_7, ex_8, ex_9, ey_2, ey_3, ey_4, ey_5, ey_6, ey_7, ey_8, ey_9]
  have hs : s.size ≤ 1048576 := h1
  have hn : (s.extract 0 4).toList = [110, 111, 116, 32] ↔ mkB ((bl' s).take 4) = notSgn := by
    have h0 : notSgn.toList = [110, 111, 116, 32] := by rw [ByteArray.toList_eq]; rfl
    have h1 : s.extract 0 4 = mkB ((bl' s).take 4) := ext_mk s 0 4
    rw [h1, ← h0, tl_inj]
  rw [hn, ext_rest]
  have yes : isNot s = true → litReadS s = litOf true (atomReadS (mkB ((bl' s).drop 4))) := fun h => by unfold litReadS; rw [if_pos h]
  have no : ¬ isNot s = true → litReadS s = litOf false (atomReadS s) := fun h => by unfold litReadS; rw [if_neg h]
  refine ⟨fun h4 => ⟨by omega, fun g => ?_, fun g => ?_⟩, fun h4 => ?_⟩
  · have e := yes (by unfold isNot; rw [decide_eq_true (by omega), decide_eq_true g]; rfl)
    refine ⟨by omega, by omega, fun h => z_lit ?_, fun h => ?_⟩
    · rw [e]; unfold litOf; rw [if_neg (by rw [h]; simp)]
    · rw [e]; unfold litOf; rw [if_pos h]
      exact ⟨rfl, rfl, rfl, rfl, rfl, rfl, rfl, rfl, rfl, rfl, rfl⟩
  · have e := no (by unfold isNot; rw [decide_eq_false g, Bool.and_false]; simp)
    refine ⟨hs, fun h => z_lit ?_, fun h => ?_⟩
    · rw [e]; unfold litOf; rw [if_neg (by rw [h]; simp)]
    · rw [e]; unfold litOf; rw [if_pos h]
      exact ⟨rfl, rfl, rfl, rfl, rfl, rfl, rfl, rfl, rfl, rfl, rfl⟩
  · have e := no (by unfold isNot; rw [decide_eq_false (by omega), Bool.false_and]; simp)
    refine ⟨hs, fun h => z_lit ?_, fun h => ?_⟩
    · rw [e]; unfold litOf; rw [if_neg (by rw [h]; simp)]
    · rw [e]; unfold litOf; rw [if_pos h]
      exact ⟨rfl, rfl, rfl, rfl, rfl, rfl, rfl, rfl, rfl, rfl, rfl⟩)
theorem k_l6Scan : SoundC Tryz.prog K_l6Scan.1 K_l6Scan.2 := sound_ofW hm (((CtxOK.nil.and k_sTermRead).and k_l16Num).and k_l16Cut) (fun (s : ByteArray) => A_l6Scan s) (by kernel_rfl) fun (s : ByteArray) hb => g_l6Scan s hb
theorem k_sAtomRead : SoundC Tryz.prog K_sAtomRead.1 K_sAtomRead.2 := sound_ofW hm ((((CtxOK.nil.and k_sAtomText).and k_sTermRead).and k_l6Scan).and k_l16Cut) (fun (s : ByteArray) => []) (by kernel_rfl) fun (s : ByteArray) hb => g_sAtomRead s hb
theorem k_readEq : SoundC Tryz.prog K_readEq.1 K_readEq.2 := sound_ofW hm ((CtxOK.nil.and k_iTermRead).and k_Cut) (fun (s : ByteArray) => []) (by kernel_rfl) fun (s : ByteArray) hb => g_readEq s hb
theorem k_readSum : SoundC Tryz.prog K_readSum.1 K_readSum.2 := sound_ofW hm (((((CtxOK.nil.and k_iTermRead).and k_Cut).and k_Atoi).and k_within).and k_Split) (fun (s : ByteArray) => A_readSum s) (by kernel_rfl) fun (s : ByteArray) hb => g_readSum s hb
theorem k_iAtomRead : SoundC Tryz.prog K_iAtomRead.1 K_iAtomRead.2 := sound_ofW hm ((((CtxOK.nil.and k_atomText).and k_Atomok).and k_readSum).and k_readEq) (fun (s : ByteArray) => []) (by kernel_rfl) fun (s : ByteArray) hb => g_iAtomRead s hb
theorem k_iLitRead : SoundC Tryz.prog K_iLitRead.1 K_iLitRead.2 := sound_ofW hm ((CtxOK.nil.and k_iAtomRead).and k_CutPrefix) (fun (s : ByteArray) => []) (by kernel_rfl) fun (s : ByteArray) hb => g_iLitRead s hb
theorem k_sLitRead : SoundC Tryz.prog K_sLitRead.1 K_sLitRead.2 := sound_ofW hm (CtxOK.nil.and k_sAtomRead) (fun (s : ByteArray) => []) (by kernel_rfl) fun (s : ByteArray) hb => g_sLitRead s hb
end Cg

/-
  What is left to show of each function's code, printed by a program: Mae. No condition.
-/
set_option maxRecDepth 100000
set_option linter.unusedVariables false
namespace Cg
open Go Go.Proofs
end Cg
