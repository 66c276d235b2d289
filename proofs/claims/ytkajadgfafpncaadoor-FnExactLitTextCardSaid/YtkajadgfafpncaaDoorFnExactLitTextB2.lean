/-
  What the law leans on, part 2. No condition.
-/
import Derived.Test.YtkajadgfafpncaaDoorProg
import Derived.Test.YtkajadgfafpncaaDoorLaw
import Derived.Lib.LaidTab
import Derived.LaidSub
import Derived.LaidMore
import Derived.MakeChecks
import Derived.Test.YtkajadgfafpncaaDoorRows
import Derived.Test.YtkajadgfafpncaaDoorFnExactLitTextB1
/-
  The codes' contracts: valid atoms. No condition.
-/
set_option linter.unusedVariables false
set_option linter.unusedSimpArgs false
set_option maxRecDepth 100000
set_option maxHeartbeats 1000000
namespace Pl
open Go Cg
theorem textBs_map : ∀ l : List Tm, textBs l = l.map textB
  | [] => rfl
  | t :: ts => by simp only [textBs, List.map_cons, textBs_map ts]
theorem interL_snoc {sep t : List UInt8} : ∀ {ts : List (List UInt8)}, ts ≠ [] → interL sep (ts ++ [t]) = interL sep ts ++ sep ++ t
  | [], h => absurd rfl h
  | [x], _ => by simp [interL]
  | x :: y :: r, _ => by
    have := interL_snoc (sep := sep) (t := t) (ts := y :: r) (by simp)
    simp only [List.cons_append] at this ⊢
    simp only [interL, this, List.append_assoc]
theorem interL_len (sep : List UInt8) (h1 : sep.length = 1) : ∀ ts : List (List UInt8), (interL sep ts).length ≤ sumN List.length ts + ts.length - 1
  | [] => by simp [interL]
  | [x] => by simp [interL, sumN]
  | x :: y :: r => by
    have := interL_len sep h1 (y :: r)
    simp only [interL, List.length_append, sumN, List.length_cons] at this ⊢
    omega
theorem textB_mk (v : ByteArray) (ks : List Tm) : textB (.mk v ks) = if ks = [] then bl' v else spellB (bl' v) (textBs ks) ++ [41] := by
  rw [textB]
  cases ks with
  | nil => rfl
  | cons k r => simp [spellB, textBs]
theorem spellB_step {v : List UInt8} {l : List Tm} {k : Nat} (h : k < l.length) : spellB v (textBs (l.take (k + 1))) = (spellB v (textBs (l.take k)) ++ [if k = 0 then 40 else 44]) ++ textB (l.getD k dT) := by
  rw [take_getD dT h, textBs_map, textBs_map, List.map_append]
  unfold spellB
  by_cases h0 : k = 0
  · subst h0; simp [interL]
  · have hne : (l.take k).map textB ≠ [] := by
      intro e
      have := congrArg List.length e
      rw [List.length_map, List.length_take, List.length_nil] at this
      omega
    have h2 : ((l.take k).map textB).isEmpty = false := by cases hh : (l.take k).map textB with
      | nil => exact absurd hh hne
      | cons _ _ => rfl
    have h3 : ((l.take k).map textB ++ [l.getD k dT].map textB).isEmpty = false := by cases hh : (l.take k).map textB with
      | nil => exact absurd hh hne
      | cons _ _ => rfl
    rw [h2, h3, if_neg h0]
    simp only [List.map_cons, List.map_nil, Bool.false_eq_true, if_false]
    rw [interL_snoc hne]; simp only [List.append_assoc]
mutual
theorem textB_len : ∀ t : Tm, (textB t).length ≤ 2 * costT t
  | .mk v ks => by
    have h := textBs_len ks
    have hl := interL_len [44] rfl (textBs ks)
    have hm : (textBs ks).length = ks.length := by rw [textBs_map]; simp
    rw [textB_mk]
    rw [costT]
    have e : (bl' v).length = v.size := rfl
    by_cases h0 : ks = []
    · rw [if_pos h0]; omega
    · rw [if_neg h0]
      have hp : 0 < ks.length := by cases ks with
        | nil => exact absurd rfl h0
        | cons _ _ => simp
      have hq : (textBs ks).isEmpty = false := by cases hh : textBs ks with
        | nil => rw [hh] at hm; simp at hm; omega
        | cons _ _ => rfl
      unfold spellB
      rw [hq]
      simp only [Bool.false_eq_true, if_false, List.length_append, List.length_singleton]
      omega
theorem textBs_len : ∀ l : List Tm, sumN List.length (textBs l) ≤ 2 * costTs l
  | [] => by simp [textBs, sumN]
  | t :: ts => by
    have h1 := textB_len t
    have h2 := textBs_len ts
    simp only [textBs, sumN, costTs]
    omega
end
theorem spellB_len (v : List UInt8) (l : List Tm) (k : Nat) : (spellB v (textBs (l.take k))).length ≤ v.length + 2 * costTs l + l.length + 1 := by
  have h := textBs_len l
  have e : textBs (l.take k) = (textBs l).take k := by rw [textBs_map, textBs_map, List.map_take]
  have hl := interL_len [44] rfl (textBs (l.take k))
  have hs := sumN_take_le List.length (textBs l) k
  have hm : (textBs (l.take k)).length ≤ l.length := by rw [textBs_map]; simp; omega
  rw [e] at hl hm ⊢
  unfold spellB
  split
  · omega
  · simp only [List.length_append, List.length_singleton]; omega
theorem textL_join (l : List Tm) : joinS (textL l) ⟨#[44]⟩ = mkB (interL [44] (textBs l)) := by
  unfold joinS textL
  rw [textBs_map, List.map_map]
  rfl
@[simp] theorem mkB_list (l : List UInt8) : (mkB l).data.toList = l := rfl
@[simp] theorem mkB_size (l : List UInt8) : (mkB l).size = l.length := rfl
end Pl
namespace Cg
open Go Go.Proofs Pl
theorem k_l4Text (n : Nat) : SoundC Tryd.prog (K_l4Text n).1 (K_l4Text n).2 := by
  induction n with
  | zero => exact sound_of hm CtxOK.nil (fun _ => []) (by kernel_rfl) fun x h => absurd h.2 (Nat.not_lt_zero _)
  | succ n ih => exact sound_of hm (CtxOK.nil.and (K := K_l4Text n) ih) (fun x => A_l4Text x.1 x.2) (by kernel_rfl) fun (x : TP) hl => (by
      have ht : SmT (.mk x.1 x.2) := hl.1
      have hn : manyL x.2 < n + 1 := hl.2
      clear hl
      rw [← vc_l4Text n x]
      obtain ⟨a, b⟩ := x
      dsimp only at *
      simp [-List.getD_eq_getElem?_getD, -List.mem_cons, -Bool.forall_bool, -Bool.exists_bool, and_assoc, peta, tl_inj, ex_1, ex_2, ex_3, ex_4, ex_5, ex_6, ex_7, ex_8, ex_9, ey_2, ey_3, ey_4, ey_5, ey_6, ey_7, ey_8, ey_9]
      have k1 := (SmT.kids ht).len
      have hc : a.size + b.length + costTs b ≤ 1048576 := by have h : costT (.mk a b) ≤ 1048576 := ht; rw [costT] at h; exact h
      have hb : (bl' a).length = a.size := rfl
      have hsz : ∀ k, (spell a (b.take k)).size ≤ 2097153 * 2 := fun k => by
        have := spellB_len (bl' a) b k
        show (spellB (bl' a) (textBs (b.take k))).length ≤ _
        omega
      have ht1 : ∀ t ∈ b, (textT t).size ≤ 2097152 := fun t h => by
        have h1 := textB_len t
        have h2 : costT t ≤ 1048576 := (SmT.kids ht).mem h
        show (textB t).length ≤ _
        omega
      have key : ∀ (k : Nat) (c : UInt8), k < b.length → c = (if k = 0 then 40 else 44) →
          ({ data := { toList := (spell a (List.take k b)).data.toList ++ c :: (textT (b.getD k dT)).data.toList } } : ByteArray) = spell a (b.take (k + 1)) := fun k c hk hc => by
        show mkB _ = mkB _
        rw [spellB_step hk, ← hc]
        congr 1
        show spellB (bl' a) (textBs (b.take k)) ++ c :: textB (b.getD k dT) = _
        simp
      have sz : ∀ (l : List UInt8) (c : UInt8), (ByteArray.mk ⟨l ++ [c]⟩).size = l.length + 1 := fun l c => by
        show (l ++ [c]).length = _
        simp
      refine ⟨⟨0, by simp, by show a = mkB _; rfl, rfl⟩, fun k hk => ⟨fun hlt => ⟨fun h0 => ?_, fun h0 => ?_⟩, fun hge => ⟨fun h0 => ?_, fun h0 => ?_⟩⟩⟩
      · have h1 := hsz k
        have h2 := ht1 _ (getD_mem dT hlt)
        refine ⟨by omega, hlt, (SmT.kids ht).mem (getD_mem dT hlt), by have := manyL_kids (getD_mem dT hlt); omega, ?_, k + 1, hlt, by omega, key k 40 hlt (by rw [if_pos h0]), wrap_small (by omega) (by omega)⟩
        rw [sz]
        have h3 : (spell a (b.take k)).data.toList.length = (spell a (b.take k)).size := rfl
        omega
      · have h1 := hsz k
        have h2 := ht1 _ (getD_mem dT hlt)
        refine ⟨by omega, hlt, (SmT.kids ht).mem (getD_mem dT hlt), by have := manyL_kids (getD_mem dT hlt); omega, ?_, k + 1, hlt, by omega, key k 44 hlt (by rw [if_neg h0]), wrap_small (by omega) (by omega)⟩
        rw [sz]
        have h3 : (spell a (b.take k)).data.toList.length = (spell a (b.take k)).size := rfl
        omega
      · have h1 := hsz k
        refine ⟨by omega, ?_⟩
        show mkB _ = mkB _
        rw [textB_mk, if_neg (by intro e; rw [e] at h0; simp at h0), List.take_of_length_le (by omega)]
        rfl
      · show mkB _ = mkB _
        rw [textB_mk, if_pos h0, h0, List.take_nil]
        rfl)
theorem k_lText : SoundC Tryd.prog K_lText.1 K_lText.2 := SoundC.fam (fun x => manyL x.2) fun n => k_l4Text n
theorem k_termText (n : Nat) : SoundC Tryd.prog (K_termText n).1 (K_termText n).2 := by
  induction n with
  | zero => exact sound_of hm CtxOK.nil (fun _ => []) (by kernel_rfl) fun x h => absurd h.2 (Nat.not_lt_zero _)
  | succ n ih => exact sound_of hm ((CtxOK.nil.and k_Join).and (K := K_termText n) ih) (fun x => A_termText x.1 x.2) (by kernel_rfl) fun (x : TP) hl => (by
      have ht : SmT (.mk x.1 x.2) := hl.1
      have hn : manyL x.2 < n + 1 := hl.2
      clear hl
      rw [← vc_termText n x]
      obtain ⟨a, b⟩ := x
      dsimp only at *
      simp [-List.getD_eq_getElem?_getD, -List.mem_cons, -Bool.forall_bool, -Bool.exists_bool, and_assoc, peta, tl_inj, ex_1, ex_2, ex_3, ex_4, ex_5, ex_6, ex_7, ex_8, ex_9, ey_2, ey_3, ey_4, ey_5, ey_6, ey_7, ey_8, ey_9]
      have k1 := (SmT.kids ht).len
      have hc : a.size + b.length + costTs b ≤ 1048576 := by have h : costT (.mk a b) ≤ 1048576 := ht; rw [costT] at h; exact h
      have hll : ∀ k, (textL (b.take k)).length ≤ b.length := fun k => by unfold textL; simp; omega
      refine ⟨fun h0 => ?_, fun h0 => ⟨⟨0, by simp, h0, rfl, rfl, rfl⟩, fun k hk _ => ⟨fun hlt => ?_, fun hge => ?_⟩⟩⟩
      · show a = mkB _
        rw [textB_mk, if_pos h0]; rfl
      · have hs1 : textL (b.take (k + 1)) = textL (b.take k) ++ [textT (b.getD k dT)] := by
          unfold textL; rw [take_getD dT hlt]; simp
        have h1 := hll k
        refine ⟨hlt, (SmT.kids ht).mem (getD_mem dT hlt), by have := manyL_kids (getD_mem dT hlt); omega, by omega, k + 1, hlt, h0, by omega, by rw [hs1]; simp, wrap_small (by omega) (by omega), ?_⟩
        rw [hs1]; exact strs_push
      · rw [List.take_of_length_le (by omega), textL_join]
        have hb : (bl' a).length = a.size := rfl
        have hsum := textBs_len b
        have hl := interL_len [44] rfl (textBs b)
        have hm : (textBs b).length = b.length := by rw [textBs_map]; simp
        have hlb : (textL b).length = b.length := by unfold textL; simp
        have sz : ∀ l : List UInt8, (ByteArray.mk ⟨l⟩).size = l.length := fun l => rfl
        have ha : a.data.toList.length = a.size := rfl
        simp only [mkB_list, mkB_size, sz, List.length_append, List.length_cons, List.length_nil]
        refine ⟨by show (a.size : Int) + 1 ≤ _; omega, by omega, by omega, by omega, by omega, ?_⟩
        show mkB _ = mkB _
        rw [textB_mk, if_neg h0]
        have hq : (textBs b).isEmpty = false := by cases hh : textBs b with
          | nil => rw [hh] at hm; simp at hm; exact absurd (List.length_eq_zero_iff.1 hm.symm) h0
          | cons _ _ => rfl
        unfold spellB
        rw [hq]
        simp [bl'])
theorem k_tText : SoundC Tryd.prog K_tText.1 K_tText.2 := SoundC.fam (fun x => manyL x.2) fun n => k_termText n
theorem k_l6None : SoundC Tryd.prog K_l6None.1 K_l6None.2 := sound_of hm CtxOK.nil (fun _ => []) (by kernel_rfl) fun (x : TP) hl => (by
  rw [← vc_l6None x]
  obtain ⟨a, b⟩ := x
  dsimp only at *
  simp [-List.getD_eq_getElem?_getD, -List.mem_cons, -Bool.forall_bool, -Bool.exists_bool, and_assoc, peta, tl_inj, ex_1, ex_2, ex_3, ex_4, ex_5, ex_6, ex_7, ex_8, ex_9, ey_2, ey_3, ey_4, ey_5, ey_6, ey_7, ey_8, ey_9]
  unfold noneT
  have e : a.toList = [] ↔ a = ByteArray.empty := by
    rw [← tl_inj (b := ByteArray.empty)]
    have : ByteArray.empty.toList = [] := by rw [ByteArray.toList_eq]; rfl
    rw [this]
  refine ⟨fun h => ?_, fun h => ?_⟩
  · rw [decide_eq_true (e.1 h), Bool.true_and, Bool.beq_eq_decide_eq]
    congr 1
    simp only [eq_iff_iff, List.length_eq_zero_iff, Int.natCast_eq_zero]
  · rw [decide_eq_false (fun h2 => h (e.2 h2))]; rfl)
theorem k_isNone : SoundC Tryd.prog K_isNone.1 K_isNone.2 := sound_of hm CtxOK.nil (fun _ => []) (by kernel_rfl) fun (x : TP) hl => (by
  rw [← vc_isNone x]
  obtain ⟨a, b⟩ := x
  dsimp only at *
  simp [-List.getD_eq_getElem?_getD, -List.mem_cons, -Bool.forall_bool, -Bool.exists_bool, and_assoc, peta, tl_inj, ex_1, ex_2, ex_3, ex_4, ex_5, ex_6, ex_7, ex_8, ex_9, ey_2, ey_3, ey_4, ey_5, ey_6, ey_7, ey_8, ey_9]
  unfold noneT
  have e : a.toList = [] ↔ a = ByteArray.empty := by
    rw [← tl_inj (b := ByteArray.empty)]
    have : ByteArray.empty.toList = [] := by rw [ByteArray.toList_eq]; rfl
    rw [this]
  refine ⟨fun h => ?_, fun h => ?_⟩
  · rw [decide_eq_true (e.1 h), Bool.true_and, Bool.beq_eq_decide_eq]
    congr 1
    simp only [eq_iff_iff, List.length_eq_zero_iff, Int.natCast_eq_zero]
  · rw [decide_eq_false (fun h2 => h (e.2 h2))]; rfl)
theorem num_step {nums : List Tm} {times : List Int} {k : Nat} (h1 : k < nums.length) (h2 : k < times.length) (he : numOk none nums times = numOk (prevN nums k) (nums.drop k) (times.drop k)) :
    (right (nums.getD k dT) = false → numOk none nums times = false) ∧ (timeOk (times.getD k 0) = false → numOk none nums times = false) ∧ (above (prevN nums k) (nums.getD k dT) = false → numOk none nums times = false) ∧
    (right (nums.getD k dT) = true → timeOk (times.getD k 0) = true → above (prevN nums k) (nums.getD k dT) = true → numOk none nums times = numOk (prevN nums (k + 1)) (nums.drop (k + 1)) (times.drop (k + 1))) := by
  rw [drop_get dT h1, drop_get 0 h2] at he
  simp only [numOk] at he
  refine ⟨fun h => by rw [he, h]; rfl, fun h => by rw [he, h]; simp, fun h => by rw [he, h]; simp, fun a1 a2 a3 => ?_⟩
  rw [he, a1, a2, a3]
  simp [prevN, -List.getD_eq_getElem?_getD]
theorem num_end {p : Option Tm} {nums : List Tm} {times : List Int} {k : Nat} (h1 : nums.length ≤ k) : numOk p (nums.drop k) (times.drop k) = true := by
  rw [drop_end (by omega)]; cases times.drop k <;> rfl
theorem head_iff (kind : Int) (a b : TP) (nums : List Tm) (times : List Int) (bound : Int) (strict : Bool) : sumHead (kind, a, b, nums, times, bound, strict) = true ↔ noneT a = true ∧ noneT b = true ∧ nums.length = times.length ∧ 1 ≤ nums.length ∧ nums.length ≤ 4 ∧ -1000 ≤ bound ∧ bound ≤ 1000 := by
  simp only [sumHead, Bool.and_eq_true, decide_eq_true_eq, and_assoc]
theorem above_prev {nums : List Tm} {k : Nat} (h : 0 < k) : above (prevN nums k) (nums.getD k dT) = Op.bytesLess (textT (nums.getD (k - 1) dT)).toList (textT (nums.getD k dT)).toList := by
  unfold prevN; rw [if_neg (by omega)]; rfl
theorem above_none {nums : List Tm} {k : Nat} (h : k = 0) : above (prevN nums k) (nums.getD k dT) = true := by
  unfold prevN; rw [if_pos h]; rfl
theorem timeOk_iff {n : Int} : timeOk n = true ↔ n ≠ 0 ∧ -50 ≤ n ∧ n ≤ 50 := by
  simp only [timeOk, Bool.and_eq_true, decide_eq_true_eq, and_assoc]
theorem timeOk_no {n : Int} (h : ¬ (n ≠ 0 ∧ -50 ≤ n ∧ n ≤ 50)) : timeOk n = false := by
  cases e : timeOk n with
  | false => rfl
  | true => exact absurd (timeOk_iff.1 e) h

theorem k_l6Sum : SoundC Tryd.prog K_l6Sum.1 K_l6Sum.2 := sound_of hm (((CtxOK.nil.and k_lText).and k_l4Right).and k_l6None) (fun x => A_l6Sum x) (by kernel_rfl) fun (x : Atm) hl => (by
  have hs : SmA x := hl
  clear hl
  rw [← vc_l6Sum x]
  obtain ⟨kind, ⟨a, b⟩, ⟨c, d⟩, nums, times, bound, strict⟩ := x
  dsimp only at *
  simp [-List.getD_eq_getElem?_getD, -List.mem_cons, -Bool.forall_bool, -Bool.exists_bool, and_assoc, peta, tl_inj, ex_1, ex_2, ex_3, ex_4, ex_5, ex_6, ex_7, ex_8, ex_9, ey_2, ey_3, ey_4, ey_5, ey_6, ey_7, ey_8, ey_9]
  obtain ⟨_, _, q3, q4⟩ : SmT (.mk a b) ∧ SmT (.mk c d) ∧ SmTs nums ∧ times.length ≤ 1048576 := SmA.parts hs
  have q5 := q3.len
  have hd := head_iff kind (a, b) (c, d) nums times bound strict
  generalize hX : ((kind, (a, b), (c, d), nums, times, bound, strict) : Atm) = X at *
  have eN : sumRight X = (sumHead X && numOk none nums times) := by subst hX; rfl
  clear hs
  have noH : (sumHead X = true → False) → sumRight X = false := fun h => by
    rw [eN]
    cases e : sumHead X with
    | false => rfl
    | true => exact (h e).elim
  have noN : numOk none nums times = false → sumRight X = false := fun h => by rw [eN, h]; simp
  refine ⟨fun g1 => noH fun h => (by rw [(hd.1 h).1] at g1; cases g1), fun g1 => ⟨fun g2 => noH fun h => (by rw [(hd.1 h).2.1] at g2; cases g2), fun g2 => ⟨fun g3 => noH fun h => (by have := hd.1 h; omega), fun g3 => ⟨fun g4 => noH fun h => (by have := hd.1 h; omega), fun g4 => ⟨fun g5 => noH fun h => (by have := hd.1 h; omega), fun g5 => ⟨fun g6 => noH fun h => (by have := hd.1 h; omega), fun g6 => ⟨fun g7 => noH fun h => (by have := hd.1 h; omega), fun g7 => ?_⟩⟩⟩⟩⟩⟩⟩
  have g3' : nums.length = times.length := by omega
  have hh : sumHead X = true := hd.2 ⟨g1, g2, by omega, by omega, by omega, g6, g7⟩
  refine ⟨hh, ⟨0, by simp, by simp [prevN], rfl⟩, fun k _ hk he => ⟨fun hlt => ?_, fun hge => ?_⟩⟩
  · obtain ⟨e1, e2, e3, e4⟩ := num_step hlt (by omega) he
    refine ⟨by omega, hlt, q3.mem (getD_mem dT hlt), fun h => noN (e1 h), fun r1 => ⟨fun h => noN (e2 (timeOk_no (by omega))), fun r2 => ⟨fun h => noN (e2 (timeOk_no (by omega))), fun r3 => ⟨fun h => noN (e2 (timeOk_no (by omega))), fun r4 => ⟨fun hp => ?_, fun hz => ⟨hh, k + 1, hlt, e4 r1 (timeOk_iff.2 ⟨r2, r3, r4⟩) (above_none hz), by omega, wrap_small (by omega) (by omega)⟩⟩⟩⟩⟩⟩
    rw [wrap_small (x := (k : Int) - 1) (by omega) (by omega)]
    have e : ((k : Int) - 1).toNat = k - 1 := by omega
    rw [e]
    have hab := above_prev (nums := nums) hp
    exact ⟨by omega, by omega, by omega, q3.mem (getD_mem dT (by omega)), hlt, q3.mem (getD_mem dT hlt), fun h => noN (e3 (by rw [hab]; exact h)), fun h => ⟨hh, k + 1, hlt, e4 r1 (timeOk_iff.2 ⟨r2, r3, r4⟩) (by rw [hab]; exact h), by omega, wrap_small (by omega) (by omega)⟩⟩
  · rw [eN, hh, he, num_end hge]; rfl)
theorem k_l6Right : SoundC Tryd.prog K_l6Right.1 K_l6Right.2 := sound_of hm ((CtxOK.nil.and k_l4Right).and k_l6Sum) (fun _ => []) (by kernel_rfl) fun (x : Atm) hl => (by
  have hs : SmA x := hl
  clear hl
  rw [← vc_l6Right x]
  obtain ⟨kind, ⟨a, b⟩, ⟨c, d⟩, nums, times, bound, strict⟩ := x
  dsimp only at *
  simp [-List.getD_eq_getElem?_getD, -List.mem_cons, -Bool.forall_bool, -Bool.exists_bool, and_assoc, peta, tl_inj, ex_1, ex_2, ex_3, ex_4, ex_5, ex_6, ex_7, ex_8, ex_9, ey_2, ey_3, ey_4, ey_5, ey_6, ey_7, ey_8, ey_9]
  obtain ⟨q1, q2, _, _⟩ := SmA.parts hs
  have e2 : kind = 2 → atomRight (kind, (a, b), (c, d), nums, times, bound, strict) = sumRight (kind, (a, b), (c, d), nums, times, bound, strict) := fun h => by unfold atomRight; rw [if_pos h]
  have e1 : ¬ kind = 2 → atomRight (kind, (a, b), (c, d), nums, times, bound, strict) = (decide (kind = 1) && (right (.mk a b) && right (.mk c d) && decide (nums = []) && decide (times = []) && decide (bound = 0) && !strict)) := fun h => by unfold atomRight; rw [if_neg h]; rfl
  refine ⟨fun h => ⟨hs, (e2 h).symm⟩, fun h => ⟨fun g => ⟨q1, fun g1 => ⟨q2, fun g2 => ⟨fun g3 => ⟨fun g4 => ⟨fun g5 => ?_, fun g5 => ?_⟩, fun g4 => ?_⟩, fun g3 => ?_⟩, fun g2 => ?_⟩, fun g1 => ?_⟩, fun g => ?_⟩⟩
  · rw [e1 h, g1, g2, decide_eq_true g, decide_eq_true g3, decide_eq_true g4, decide_eq_true g5]; simp
  · rw [e1 h, decide_eq_false g5]; simp
  · rw [e1 h, decide_eq_false g4]; simp
  · rw [e1 h, decide_eq_false g3]; simp
  · rw [e1 h, g2]; simp
  · rw [e1 h, g1]; simp
  · rw [e1 h, decide_eq_false g]; simp)
theorem k_Atomok : SoundC Tryd.prog K_Atomok.1 K_Atomok.2 := sound_of hm ((((CtxOK.nil.and k_tText).and k_within).and k_isNone).and k_isTerm) (fun x => A_Atomok x) (by kernel_rfl) fun (x : Atm) hl => (by
  have hs : SmA x := hl
  clear hl
  rw [← vc_Atomok x]
  obtain ⟨kind, ⟨a, b⟩, ⟨c, d⟩, nums, times, bound, strict⟩ := x
  dsimp only at *
  simp [-List.getD_eq_getElem?_getD, -List.mem_cons, -Bool.forall_bool, -Bool.exists_bool, and_assoc, peta, tl_inj, ex_1, ex_2, ex_3, ex_4, ex_5, ex_6, ex_7, ex_8, ex_9, ey_2, ey_3, ey_4, ey_5, ey_6, ey_7, ey_8, ey_9]
  obtain ⟨q1, q2, q3, q4⟩ : SmT (.mk a b) ∧ SmT (.mk c d) ∧ SmTs nums ∧ times.length ≤ 1048576 := SmA.parts hs
  have q5 := q3.len
  have hd := head_iff kind (a, b) (c, d) nums times bound strict
  have e1 : ¬ kind = 2 → atomRight (kind, (a, b), (c, d), nums, times, bound, strict) = (decide (kind = 1) && (right (.mk a b) && right (.mk c d) && decide (nums = []) && decide (times = []) && decide (bound = 0) && !strict)) := fun h => by unfold atomRight; rw [if_neg h]; rfl
  have e2 : kind = 2 → atomRight (kind, (a, b), (c, d), nums, times, bound, strict) = (sumHead (kind, (a, b), (c, d), nums, times, bound, strict) && numOk none nums times) := fun h => by unfold atomRight; rw [if_pos h]; rfl
  generalize hX : ((kind, (a, b), (c, d), nums, times, bound, strict) : Atm) = X at *
  clear hs
  refine ⟨fun g => ?_, fun g => ⟨fun g' => ?_, fun g' => by rw [e1 g', decide_eq_false g]; simp⟩⟩
  · have h : ¬ kind = 2 := by omega
    refine ⟨q1, fun g1 => ⟨q2, fun g2 => ⟨fun g3 => ⟨fun g4 => ⟨fun g5 => ?_, fun g5 => ?_⟩, fun g4 => ?_⟩, fun g3 => ?_⟩, fun g2 => ?_⟩, fun g1 => ?_⟩
    · rw [e1 h, g1, g2, decide_eq_true g, decide_eq_true g3, decide_eq_true g4, decide_eq_true g5]; simp
    · rw [e1 h, decide_eq_false g5]; simp
    · rw [e1 h, decide_eq_false g4]; simp
    · rw [e1 h, decide_eq_false g3]; simp
    · rw [e1 h, g2]; simp
    · rw [e1 h, g1]; simp
  · have eN := e2 g'
    have noH : (sumHead X = true → False) → atomRight X = false := fun h => by
      rw [eN]
      cases e : sumHead X with
      | false => rfl
      | true => exact (h e).elim
    have noN : numOk none nums times = false → atomRight X = false := fun h => by rw [eN, h]; simp
    have win : ∀ {x lo hi : Int}, withinI x lo hi = false ↔ ¬ (lo ≤ x ∧ x ≤ hi) := fun {x lo hi} => by
      simp only [withinI, Bool.and_eq_false_iff, decide_eq_false_iff_not]; omega
    have wiy : ∀ {x lo hi : Int}, withinI x lo hi = true ↔ (lo ≤ x ∧ x ≤ hi) := fun {x lo hi} => by
      simp only [withinI, Bool.and_eq_true, decide_eq_true_eq]
    refine ⟨fun g1 => noH fun h => (by rw [(hd.1 h).1] at g1; cases g1), fun g1 => ⟨fun g2 => noH fun h => (by rw [(hd.1 h).2.1] at g2; cases g2), fun g2 => ⟨fun g3 => noH fun h => (by have := hd.1 h; have := win.1 g3; omega), fun g3 => ⟨fun g4 => noH fun h => (by have := hd.1 h; omega), fun g4 => ⟨fun g5 => noH fun h => (by have := hd.1 h; have := win.1 g5; omega), fun g5 => ?_⟩⟩⟩⟩⟩
    have g3' := wiy.1 g3
    have g5' := wiy.1 g5
    have hh : sumHead X = true := hd.2 ⟨g1, g2, by omega, by omega, by omega, g5'.1, g5'.2⟩
    refine ⟨g', hh, ⟨0, by simp, by simp [prevN], rfl⟩, fun k _ _ hk he => ⟨fun hlt => ?_, fun hge => ?_⟩⟩
    · obtain ⟨f1, f2, f3, f4⟩ := num_step hlt (by omega) he
      refine ⟨hlt, q3.mem (getD_mem dT hlt), fun h => noN (f1 h), fun r1 => ⟨by omega, fun h => noN (f2 (timeOk_no (by have := win.1 h; omega))), fun r2 => ⟨by omega, fun h => noN (f2 (timeOk_no (by omega))), fun r3 => ⟨fun hp => ?_, fun hz => ⟨g', hh, k + 1, hlt, f4 r1 (timeOk_iff.2 ⟨r3, wiy.1 r2⟩) (above_none hz), by omega, wrap_small (by omega) (by omega)⟩⟩⟩⟩⟩
      rw [wrap_small (x := (k : Int) - 1) (by omega) (by omega)]
      have e : ((k : Int) - 1).toNat = k - 1 := by omega
      rw [e]
      have hab := above_prev (nums := nums) hp
      exact ⟨by omega, by omega, by omega, q3.mem (getD_mem dT (by omega)), q3.mem (getD_mem dT hlt), fun h => noN (f3 (by rw [hab]; exact h)), fun h => ⟨g', hh, k + 1, hlt, f4 r1 (timeOk_iff.2 ⟨r3, wiy.1 r2⟩) (by rw [hab]; exact h), by omega, wrap_small (by omega) (by omega)⟩⟩
    · rw [eN, hh, he, num_end hge]; rfl)
end Cg

/-
  What is left to show of each function's code, printed by a program: Lit. No condition.
-/
set_option maxRecDepth 100000
set_option linter.unusedVariables false
namespace Cg
open Go Go.Proofs
end Cg

/-
  The codes' contracts: lists of literals: sizes, copies, equality. No condition.
-/
set_option linter.unusedVariables false
set_option linter.unusedSimpArgs false
set_option maxRecDepth 100000
set_option maxHeartbeats 1000000
namespace Cg
open Go Go.Proofs Pl
theorem SmLs.mem {l : List Ltr} (h : SmLs l) {x : Ltr} (hx : x ∈ l) : SmA x.1 := by
  have h1 : l.length + sumN costL l ≤ 1048576 := h
  have h2 := sumN_mem costL hx
  have h3 : costL x = costA x.1 := rfl
  show costA x.1 ≤ 1048576
  omega
theorem SmLs.len {l : List Ltr} (h : SmLs l) : l.length ≤ 1048576 := by
  have h1 : l.length + sumN costL l ≤ 1048576 := h
  omega
end Cg

/-
  The codes' contracts: texts. No condition.
-/
set_option linter.unusedVariables false
set_option linter.unusedSimpArgs false
set_option maxRecDepth 100000
namespace Pl
open Go Cg
theorem bapp (a b : List UInt8) : mkB a ++ mkB b = mkB (a ++ b) := by
  apply ByteArray.ext
  rw [ByteArray.data_append]
  apply Array.toList_inj.1
  rw [Array.toList_append]
  rfl
theorem lit0 : ByteArray.mk #[] = mkB [] := rfl
theorem lit1 (a : UInt8) : ByteArray.mk #[a] = mkB [a] := rfl
theorem lit2 (a b : UInt8) : ByteArray.mk #[a, b] = mkB [a, b] := rfl
theorem lit3 (a b c : UInt8) : ByteArray.mk #[a, b, c] = mkB [a, b, c] := rfl
theorem lit4 (a b c d : UInt8) : ByteArray.mk #[a, b, c, d] = mkB [a, b, c, d] := rfl
theorem dec_eq (n : Int) : dec n = mkB (itoa n) := rfl
theorem textT_eq (t : Tm) : textT t = mkB (textB t) := rfl
theorem byteS_eq (x : Int) : byteS x = mkB [UInt8.ofNat x.toNat] := rfl
theorem mkB_inj {a b : List UInt8} : mkB a = mkB b ↔ a = b := ⟨fun h => by
  have : (mkB a).data.toList = (mkB b).data.toList := by rw [h]
  exact this, fun h => by rw [h]⟩
theorem tx_no {ok : Bool} {l : List UInt8} (h : ok = false) : tx ok l = mkB [] := by unfold tx; rw [if_neg (by rw [h]; decide)]; rfl
theorem tx_yes {ok : Bool} {l : List UInt8} (h : ok = true) : tx ok l = mkB l := by unfold tx; rw [if_pos h]
theorem digits_len : ∀ (k u : Nat), u < 10 ^ (k + 1) → (Go.Lib.decDigits u).length ≤ k + 1
  | 0, u, h => by rw [Go.Lib.decDigits, dif_pos (by simpa using h)]; simp
  | k + 1, u, h => by
    rw [Go.Lib.decDigits]
    split
    · simp
    · have := digits_len k (u / 10) (by rw [Nat.pow_succ] at h; omega)
      simp; omega
theorem itoa_len {n : Int} (h : In64 n) : (itoa n).length ≤ 21 := by
  obtain ⟨h1, h2⟩ := h
  unfold itoa Go.Lib.itoa
  split
  · have := digits_len 19 n.natAbs (by omega)
    simp only [List.length_cons]; omega
  · have := digits_len 19 n.toNat (by omega)
    omega
theorem numOk_times : ∀ {nums : List Tm} {times : List Int} {p : Option Tm}, nums.length = times.length → numOk p nums times = true → ∀ n ∈ times, timeOk n = true
  | [], [], _, _, _, t, h => by cases h
  | [], _ :: _, _, hl, _, _, _ => by simp at hl
  | x :: nums, [], _, hl, _, _, _ => by simp at hl
  | x :: nums, n :: times, p, hl, h, t, ht => by
    simp only [numOk, Bool.and_eq_true] at h
    rcases List.mem_cons.1 ht with e | e
    · subst e; exact h.1.1.2
    · exact numOk_times (by simpa using hl) h.2 t e
theorem sum_facts {x : Atm} (h0 : ¬ x.1 = 1) (h : atomRight x = true) : x.2.2.2.1.length = x.2.2.2.2.1.length ∧ x.2.2.2.1.length ≤ 4 ∧ In64 x.2.2.2.2.2.1 ∧ ∀ n ∈ x.2.2.2.2.1, In64 n := by
  have e : sumRight x = true := by
    unfold atomRight at h
    split at h
    · exact h
    · rw [decide_eq_false h0] at h; cases h
  unfold sumRight at e
  rw [Bool.and_eq_true] at e
  obtain ⟨kind, a, b, nums, times, bound, strict⟩ := x
  have q := (head_iff kind a b nums times bound strict).1 e.1
  refine ⟨q.2.2.1, q.2.2.2.2.1, ⟨by dsimp only; omega, by dsimp only; omega⟩, fun n hn => ?_⟩
  have := timeOk_iff.1 (numOk_times q.2.2.1 e.2 n hn)
  exact ⟨by omega, by omega⟩
theorem numsB_step : ∀ {ts : List Tm} {ns : List Int} {k : Nat}, k < ts.length → k < ns.length → numsB (ts.take (k + 1)) (ns.take (k + 1)) = numsB (ts.take k) (ns.take k) ++ numB (ts.getD k dT) (ns.getD k 0)
  | [], _, _, h, _ => by simp at h
  | _ :: _, [], _, _, h => by simp at h
  | t :: ts, n :: ns, 0, _, _ => by simp [numsB]
  | t :: ts, n :: ns, k + 1, h1, h2 => by
    have := numsB_step (ts := ts) (ns := ns) (k := k) (by simpa using h1) (by simpa using h2)
    simp only [List.take_succ_cons, numsB, List.getD_cons_succ, this, List.append_assoc]
theorem numB_len {t : Tm} {n : Int} (h1 : SmT t) (h2 : In64 n) : (numB t n).length ≤ 2097175 := by
  have := textB_len t
  have := itoa_len h2
  have h1 : costT t ≤ 1048576 := h1
  unfold numB
  simp only [List.length_append, List.length_singleton]
  omega
theorem numsB_len : ∀ {ts : List Tm} {ns : List Int}, (∀ t ∈ ts, SmT t) → (∀ n ∈ ns, In64 n) → (numsB ts ns).length ≤ ts.length * 2097175
  | [], _, _, _ => by simp [numsB]
  | _ :: _, [], _, _ => by simp [numsB]
  | t :: ts, n :: ns, h1, h2 => by
    have h3 := numB_len (h1 t List.mem_cons_self) (h2 n List.mem_cons_self)
    have h4 := numsB_len (ts := ts) (ns := ns) (fun x hx => h1 x (List.mem_cons_of_mem _ hx)) fun x hx => h2 x (List.mem_cons_of_mem _ hx)
    simp only [numsB, List.length_append, List.length_cons, Nat.succ_mul]
    omega
theorem numsB_take {ts : List Tm} {ns : List Int} (h0 : ts.length ≤ 4) (h1 : ∀ t ∈ ts, SmT t) (h2 : ∀ n ∈ ns, In64 n) (k : Nat) : (numsB (ts.take k) (ns.take k)).length ≤ 8388700 := by
  have h := numsB_len (ts := ts.take k) (ns := ns.take k) (fun t h => h1 t (List.mem_of_mem_take h)) fun n h => h2 n (List.mem_of_mem_take h)
  have h3 : (ts.take k).length ≤ 4 := by simp; omega
  have := Nat.mul_le_mul_right 2097175 h3
  omega
theorem atomB_eq {x : Atm} (h : x.1 = 1) : atomB x = textB (.mk x.2.1.1 x.2.1.2) ++ [61] ++ textB (.mk x.2.2.1.1 x.2.2.1.2) := if_pos h
theorem atomB_sum {x : Atm} (h : ¬ x.1 = 1) : atomB x = numsB x.2.2.2.1 x.2.2.2.2.1 ++ (if x.2.2.2.2.2.2 = true then [60, 32] else [60, 61, 32]) ++ itoa x.2.2.2.2.2.1 := if_neg h
theorem atomB_len {x : Atm} (hs : SmA x) (h : atomRight x = true) : (atomB x).length ≤ 8388800 := by
  obtain ⟨q1, q2, q3, q4⟩ := SmA.parts hs
  by_cases h0 : x.1 = 1
  · rw [atomB_eq h0]
    have := textB_len (.mk x.2.1.1 x.2.1.2)
    have := textB_len (.mk x.2.2.1.1 x.2.2.1.2)
    have : costT (.mk x.2.1.1 x.2.1.2) ≤ 1048576 := q1
    have : costT (.mk x.2.2.1.1 x.2.2.1.2) ≤ 1048576 := q2
    simp only [List.length_append, List.length_singleton]
    omega
  · rw [atomB_sum h0]
    obtain ⟨s1, s2, s3, s4⟩ := sum_facts h0 h
    have := itoa_len s3
    have t := numsB_take s2 (fun t => q3.mem) s4 x.2.2.2.1.length
    rw [List.take_length, s1, List.take_length] at t
    simp only [List.length_append]
    split <;> simp only [List.length_cons, List.length_nil] <;> omega
theorem atomB_ne {x : Atm} : atomB x ≠ [] := by
  by_cases h0 : x.1 = 1
  · rw [atomB_eq h0]; simp
  · rw [atomB_sum h0]; split <;> simp
end Pl
namespace Cg
open Go Go.Proofs Pl
theorem Ext.grow (w : World) (k : Nat) (os : Array Obj) : Ext w (Go.Sort.grow (w.drewN k) os) := ⟨rfl, rfl, rfl, by show _ ≤ (w.heap ++ os).size; simp, fun b hb => by show (w.heap ++ os)[b]? = _; rw [Array.getElem?_append_left hb]⟩
theorem tab_pow {S : Nat → Prop} {w : World} (h : Gl S w) : Go.Lib.TabIs Tryd.prog w "internal/strconv.uint64pow10" .u64 Go.Lib.pow10Tab := by
  obtain ⟨h1, c, T, fr, h2, h3⟩ := h _ List.mem_cons_self
  unfold Go.Lib.TabIs World.var?
  rw [show Tryd.prog.globalNamed "internal/strconv.uint64pow10" = some 0 by kernel_rfl]
  have h2 : w.heap[(0 : Nat)]? = some (.cells c T fr) := h2
  have h3 : c = ((List.range 20).map fun i => Value.int .u64 ((10 ^ i : Nat) : Int)).toArray := h3
  simp only [Option.bind_some, h2, h3]
  unfold Go.Lib.pow10Tab
  rw [List.map_map]
  rfl
theorem k_Itoa : SoundC Tryd.prog K_Itoa.1 K_Itoa.2 := ⟨callable_of (by kernel_rfl), fun x hx S w vals hin hgl hrel => by
  obtain ⟨y0, r0, rfl, ha, hc⟩ := hrel
  cases hc
  have ha : y0 = .int .i64 x := ha
  subst ha
  exact (Tryd.strconv_Itoa x (Int.le_trans (by decide) hx.1) hx.2 w (tab_pow hgl)).mono fun e w' ⟨he, k, os, hw⟩ => by
    subst hw
    exact ⟨_, S, he, Ext.grow w k os, fun _ h => h, fun _ h => .inl h, fun b hb => Nat.lt_of_lt_of_le (hin b hb) (Ext.grow w k os).size, rfl⟩⟩
theorem digit_eq {m : Nat} (h : m < 10) : UInt8.ofNat (IntKind.u8.wrap (IntKind.i64.wrap (48 + (m : Int)))).toNat = UInt8.ofNat (48 + m) := by
  rw [wrap_small (by omega) (by omega)]
  congr 1
  have : IntKind.u8.wrap (48 + (m : Int)) = 48 + (m : Int) := by
    show (48 + (m : Int)) % 256 = _
    omega
  rw [this]; omega
theorem dec_step {m : Nat} (h : 9 < m) : itoa (m : Int) = itoa ((m / 10 : Nat) : Int) ++ [UInt8.ofNat (48 + m % 10)] := by
  unfold itoa Go.Lib.itoa
  rw [if_neg (by omega), if_neg (by omega)]
  show Go.Lib.decDigits m = Go.Lib.decDigits (m / 10) ++ _
  rw [Go.Lib.decDigits, dif_neg (by omega)]
theorem dec_last {m : Nat} (h : m < 10) : itoa (m : Int) = [UInt8.ofNat (48 + m)] := by
  unfold itoa Go.Lib.itoa
  rw [if_neg (by omega)]
  show Go.Lib.decDigits m = _
  rw [Go.Lib.decDigits, dif_pos h]
set_option maxHeartbeats 8000000 in
theorem g_l16Dec (n : Nat) (x : Int) (h1 : In64 x) (h2 : (if x < 0 then 1 else 0) < n + 1) : GoalW Tryd.prog [K_l16Dec n] (A_l16Dec x) (K_l16Dec (n + 1)).1 (K_l16Dec (n + 1)).2 x := GoalW.of (vc_l16Dec n x) (by
  simp (maxSteps := 2000000) [-List.getD_eq_getElem?_getD, -List.mem_cons, -Bool.forall_bool, -Bool.exists_bool, and_assoc, peta, tl_inj, ex_1, ex_2, ex_3, ex_4, ex_5, ex_6, ex_7, ex_8, ex_9, ey_2, ey_3, ey_4, ey_5, ey_6, ey_7, ey_8, ey_9]
  obtain ⟨b1, b2⟩ := h1
  refine ⟨fun hn => by omega, fun hn => ⟨fun h0 => ?_, fun h0 => ⟨⟨x.toNat, ⟨by omega, by omega⟩, h0, ?_, by omega⟩, fun a b ha _ he => ⟨fun h9 => ?_, fun h9 => ?_⟩⟩⟩⟩
  · have e : IntKind.i64.wrap (-x) = -x := wrap_small (by omega) (by omega)
    have i1 := itoa_len (n := -x) ⟨by omega, by omega⟩
    rw [e]
    rw [if_pos h0] at h2
    refine ⟨⟨by omega, by omega⟩, by rw [if_neg (by omega)]; omega, ?_, ?_⟩
    · show 1 + ((itoa (-x)).length : Int) ≤ _
      omega
    · rw [lit1, dec_eq, bapp]
      unfold dec itoa Go.Lib.itoa
      rw [if_pos h0, if_neg (by omega), show (-x).toNat = x.natAbs by omega]
      rfl
  · rw [lit0, dec_eq, dec_eq, bapp, List.append_nil, Int.toNat_of_nonneg h0]
  · have i1 := itoa_len (n := x) ⟨b1, b2⟩
    have hz : (dec x).size = (dec (a : Int)).size + b.size := by rw [he]; simp
    have hz : (itoa x).length = (itoa (a : Int)).length + b.size := hz
    rw [show ((a : Int)).tmod 10 = ((a % 10 : Nat) : Int) from rfl, digit_eq (Nat.mod_lt _ (by omega))]
    refine ⟨?_, a / 10, ⟨by omega, by have := ha.2; omega⟩, h0, ?_, by omega, ?_⟩
    · show (1 : Int) + b.size ≤ _
      omega
    · rw [he, dec_eq, dec_step (by omega), lit1, ← bapp, ByteArray.append_assoc]; rfl
    · rw [wrap_small (by have := ha.2; omega) (by have := ha.2; omega)]; rfl
  · have i1 := itoa_len (n := x) ⟨b1, b2⟩
    have hz : (dec x).size = (dec (a : Int)).size + b.size := by rw [he]; simp
    have hz : (itoa x).length = (itoa (a : Int)).length + b.size := hz
    rw [digit_eq (by omega)]
    refine ⟨?_, ?_⟩
    · show (1 : Int) + b.size ≤ _
      omega
    · rw [he, dec_eq, dec_last (by omega), lit1])
theorem k_l16Dec (n : Nat) : SoundC Tryd.prog (K_l16Dec n).1 (K_l16Dec n).2 := by
  induction n with
  | zero => exact sound_of hm CtxOK.nil (fun _ => []) (by kernel_rfl) fun x h => absurd h.2 (Nat.not_lt_zero _)
  | succ n ih => exact sound_ofW hm (CtxOK.nil.and (K := K_l16Dec n) ih) (fun (x : Int) => A_l16Dec x) (by kernel_rfl) fun (x : Int) hb => g_l16Dec n x hb.1 hb.2
theorem k_dec : SoundC Tryd.prog K_dec.1 K_dec.2 := SoundC.fam (fun (x : Int) => if x < 0 then 1 else 0) fun n => k_l16Dec n
set_option maxHeartbeats 8000000 in
theorem g_sign (x : Bool)  : GoalW Tryd.prog [] ([]) K_sign.1 K_sign.2 (x) := GoalW.of (vc_sign x) (by
  simp only [lit0, lit1, lit2, lit3, lit4, dec_eq, textT_eq, byteS_eq, bapp, mkB_size, mkB_inj]
  simp (maxSteps := 2000000) [-List.getD_eq_getElem?_getD, -List.mem_cons, -Bool.forall_bool, -Bool.exists_bool, and_assoc, peta, tl_inj, ex_1, ex_2, ex_3, ex_4, ex_5, ex_6, ex_7, ex_8, ex_9, ey_2, ey_3, ey_4, ey_5, ey_6, ey_7, ey_8, ey_9]
  exact ⟨fun h => by rw [h]; rfl, fun h => by rw [h]; rfl⟩)
theorem k_sign : SoundC Tryd.prog K_sign.1 K_sign.2 := sound_ofW hm CtxOK.nil (fun (x : Bool) => []) (by kernel_rfl) fun (x : Bool) hb => g_sign x 
set_option maxHeartbeats 8000000 in
theorem g_sAtomText (x : Pl.Atm) (h1 : SmA x) : GoalW Tryd.prog [K_l6Right, K_lText, K_dec] (A_sAtomText x) K_sAtomText.1 K_sAtomText.2 (x) := GoalW.of (vc_sAtomText x) (by
  simp only [lit0, lit1, lit2, lit3, lit4, dec_eq, textT_eq, byteS_eq, bapp, mkB_size, mkB_inj]
  simp (maxSteps := 2000000) [-List.getD_eq_getElem?_getD, -List.mem_cons, -Bool.forall_bool, -Bool.exists_bool, and_assoc, peta, tl_inj, ex_1, ex_2, ex_3, ex_4, ex_5, ex_6, ex_7, ex_8, ex_9, ey_2, ey_3, ey_4, ey_5, ey_6, ey_7, ey_8, ey_9]
  obtain ⟨q1, q2, q3, q4⟩ := SmA.parts h1
  have t1 := textB_len (.mk x.2.1.1 x.2.1.2)
  have t2 := textB_len (.mk x.2.2.1.1 x.2.2.1.2)
  have q1 : costT (.mk x.2.1.1 x.2.1.2) ≤ 1048576 := q1
  have q2 : costT (.mk x.2.2.1.1 x.2.2.1.2) ≤ 1048576 := q2
  refine ⟨h1, fun h => (tx_no h).symm, fun h2 => ?_⟩
  rw [tx_yes h2]
  simp only [mkB_inj]
  refine ⟨fun h0 => ⟨q1, by omega, q2, by omega, by rw [atomB_eq h0]; simp⟩, fun h0 => ?_⟩
  · have h0 : ¬ x.1 = 1 := h0
    obtain ⟨s1, s2, s3, s4⟩ := sum_facts h0 h2
    have i3 := itoa_len s3
    have t3 := fun k => numsB_take s2 (fun t => q3.mem) s4 k
    refine ⟨h0, h2, ⟨0, by omega, rfl, rfl⟩, fun k _ _ hk => ⟨fun hlt => ?_, fun hge => ?_⟩⟩
    · have t4 := t3 k
      have i4 := s4 _ (getD_mem 0 (l := x.2.2.2.2.1) (k := k) (by omega))
      have i5 := itoa_len i4
      have q5 : costT (x.2.2.2.1.getD k dT) ≤ 1048576 := q3.mem (getD_mem dT hlt)
      have t5 := textB_len (x.2.2.2.1.getD k dT)
      refine ⟨by omega, i4, by omega, by omega, hlt, q5, by omega, by omega, h0, h2, k + 1, hlt, by omega, ?_, wrap_small (by omega) (by omega)⟩
      rw [numsB_step hlt (by omega)]
      unfold numB
      simp
    · have t4 := t3 k
      refine ⟨fun hb => ⟨by omega, s3, by omega, ?_⟩, fun hb => ⟨by omega, s3, by omega, ?_⟩⟩
      · rw [atomB_sum h0, List.take_of_length_le hge, List.take_of_length_le (by omega), if_pos hb]; simp
      · rw [atomB_sum h0, List.take_of_length_le hge, List.take_of_length_le (by omega), if_neg (by rw [hb]; decide)]; simp)
theorem k_sAtomText : SoundC Tryd.prog K_sAtomText.1 K_sAtomText.2 := sound_ofW hm (((CtxOK.nil.and k_dec).and k_lText).and k_l6Right) (fun (x : Pl.Atm) => A_sAtomText x) (by kernel_rfl) fun (x : Pl.Atm) hb => g_sAtomText x hb
set_option maxHeartbeats 8000000 in
theorem g_atomText (x : Pl.Atm) (h1 : SmA x) (h2 : atomRight x = true) : GoalW Tryd.prog [K_tText, K_Itoa, K_sign] (A_atomText x) K_atomText.1 K_atomText.2 (x) := GoalW.of (vc_atomText x) (by
  simp only [lit0, lit1, lit2, lit3, lit4, dec_eq, textT_eq, byteS_eq, bapp, mkB_size, mkB_inj]
  simp (maxSteps := 2000000) [-List.getD_eq_getElem?_getD, -List.mem_cons, -Bool.forall_bool, -Bool.exists_bool, and_assoc, peta, tl_inj, ex_1, ex_2, ex_3, ex_4, ex_5, ex_6, ex_7, ex_8, ex_9, ey_2, ey_3, ey_4, ey_5, ey_6, ey_7, ey_8, ey_9]
  obtain ⟨q1, q2, q3, q4⟩ := SmA.parts h1
  have t1 := textB_len (.mk x.2.1.1 x.2.1.2)
  have t2 := textB_len (.mk x.2.2.1.1 x.2.2.1.2)
  have q1 : costT (.mk x.2.1.1 x.2.1.2) ≤ 1048576 := q1
  have q2 : costT (.mk x.2.2.1.1 x.2.2.1.2) ≤ 1048576 := q2
  refine ⟨fun h0 => ⟨q1, by omega, q2, by omega, by rw [atomB_eq h0]; simp⟩, fun h0 => ?_⟩
  · have h0 : ¬ x.1 = 1 := h0
    obtain ⟨s1, s2, s3, s4⟩ := sum_facts h0 h2
    have i3 := itoa_len s3
    have t3 := fun k => numsB_take s2 (fun t => q3.mem) s4 k
    have hsg : (signB x.2.2.2.2.2.2).length ≤ 2 := by unfold signB; split <;> simp
    refine ⟨h0, ⟨0, by omega, rfl, rfl⟩, fun k _ hk => ⟨fun hlt => ?_, fun hge => ?_⟩⟩
    · have t4 := t3 k
      have i4 := s4 _ (getD_mem 0 (l := x.2.2.2.2.1) (k := k) (by omega))
      have i5 := itoa_len i4
      have q5 : costT (x.2.2.2.1.getD k dT) ≤ 1048576 := q3.mem (getD_mem dT hlt)
      have t5 := textB_len (x.2.2.2.1.getD k dT)
      refine ⟨hlt, by omega, i4, by omega, q5, by omega, by omega, by omega, h0, k + 1, hlt, by omega, ?_, wrap_small (by omega) (by omega)⟩
      rw [numsB_step hlt (by omega)]
      unfold numB
      simp
    · have t4 := t3 k
      refine ⟨by omega, by omega, s3, by omega, ?_⟩
      rw [atomB_sum h0, List.take_of_length_le hge, List.take_of_length_le (by omega)]
      unfold signB
      split <;> simp_all)
theorem k_atomText : SoundC Tryd.prog K_atomText.1 K_atomText.2 := sound_ofW hm (((CtxOK.nil.and k_sign).and k_Itoa).and k_tText) (fun (x : Pl.Atm) => A_atomText x) (by kernel_rfl) fun (x : Pl.Atm) hb => g_atomText x hb.1 hb.2
set_option maxHeartbeats 8000000 in
theorem g_sLitText (x : Pl.Ltr) (h1 : SmA x.1) : GoalW Tryd.prog [K_sAtomText] ([]) K_sLitText.1 K_sLitText.2 (x) := GoalW.of (vc_sLitText x) (by
  simp only [lit0, lit1, lit2, lit3, lit4, dec_eq, textT_eq, byteS_eq, bapp, mkB_size, mkB_inj]
  simp (maxSteps := 2000000) [-List.getD_eq_getElem?_getD, -List.mem_cons, -Bool.forall_bool, -Bool.exists_bool, and_assoc, peta, tl_inj, ex_1, ex_2, ex_3, ex_4, ex_5, ex_6, ex_7, ex_8, ex_9, ey_2, ey_3, ey_4, ey_5, ey_6, ey_7, ey_8, ey_9]
  refine ⟨h1, fun hb => ⟨fun hn => ?_, fun hn => ?_⟩, fun hb => ?_⟩
  · cases h : atomRight x.1 with
    | false => exact absurd (tx_no h) hn
    | true =>
      have := atomB_len h1 h
      rw [tx_yes rfl, tx_yes rfl, bapp, mkB_size, mkB_inj]
      exact ⟨by omega, by unfold litB; rw [if_pos hb]⟩
  · cases h : atomRight x.1 with
    | false => rw [tx_no rfl, tx_no rfl]
    | true => rw [h, tx_yes rfl, mkB_inj] at hn; exact absurd hn atomB_ne
  · unfold litB; rw [if_neg (by rw [hb]; decide)])
theorem k_sLitText : SoundC Tryd.prog K_sLitText.1 K_sLitText.2 := sound_ofW hm (CtxOK.nil.and k_sAtomText) (fun (x : Pl.Ltr) => []) (by kernel_rfl) fun (x : Pl.Ltr) hb => g_sLitText x hb
set_option maxHeartbeats 8000000 in
theorem g_litText (x : Pl.Ltr) (h1 : SmA x.1) (h2 : atomRight x.1 = true) : GoalW Tryd.prog [K_atomText] ([]) K_litText.1 K_litText.2 (x) := GoalW.of (vc_litText x) (by
  simp only [lit0, lit1, lit2, lit3, lit4, dec_eq, textT_eq, byteS_eq, bapp, mkB_size, mkB_inj]
  simp (maxSteps := 2000000) [-List.getD_eq_getElem?_getD, -List.mem_cons, -Bool.forall_bool, -Bool.exists_bool, and_assoc, peta, tl_inj, ex_1, ex_2, ex_3, ex_4, ex_5, ex_6, ex_7, ex_8, ex_9, ey_2, ey_3, ey_4, ey_5, ey_6, ey_7, ey_8, ey_9]
  have := atomB_len h1 h2
  exact ⟨fun hb => ⟨h1, h2, by omega, by unfold litB; rw [if_pos hb]; rfl⟩, fun hb => ⟨h1, h2, by unfold litB; rw [if_neg (by rw [hb]; decide)]⟩⟩)
theorem k_litText : SoundC Tryd.prog K_litText.1 K_litText.2 := sound_ofW hm (CtxOK.nil.and k_atomText) (fun (x : Pl.Ltr) => []) (by kernel_rfl) fun (x : Pl.Ltr) hb => g_litText x hb.1 hb.2
set_option maxHeartbeats 8000000 in
theorem g_iLitText (x : Pl.Ltr) (h1 : SmA x.1) : GoalW Tryd.prog [K_Atomok, K_litText] ([]) K_iLitText.1 K_iLitText.2 (x) := GoalW.of (vc_iLitText x) (by
  simp only [lit0, lit1, lit2, lit3, lit4, dec_eq, textT_eq, byteS_eq, bapp, mkB_size, mkB_inj]
  simp (maxSteps := 2000000) [-List.getD_eq_getElem?_getD, -List.mem_cons, -Bool.forall_bool, -Bool.exists_bool, and_assoc, peta, tl_inj, ex_1, ex_2, ex_3, ex_4, ex_5, ex_6, ex_7, ex_8, ex_9, ey_2, ey_3, ey_4, ey_5, ey_6, ey_7, ey_8, ey_9]
  exact ⟨h1, fun h => (tx_no h).symm, fun h => ⟨h1, h, (tx_yes h).symm⟩⟩)
theorem k_iLitText : SoundC Tryd.prog K_iLitText.1 K_iLitText.2 := sound_ofW hm ((CtxOK.nil.and k_litText).and k_Atomok) (fun (x : Pl.Ltr) => []) (by kernel_rfl) fun (x : Pl.Ltr) hb => g_iLitText x hb
end Cg

/-
  The codes' contracts: laws on texts. No condition.
-/
set_option linter.unusedVariables false
set_option linter.unusedSimpArgs false
set_option maxRecDepth 100000
namespace Cg
open Go Go.Proofs Pl
set_option maxHeartbeats 8000000 in
theorem g_xLitText (x : Pl.Ltr) (h1 : MlA x.1) : GoalW Tryd.prog [K_szLit, K_toLit, K_sLitText, K_iLitText, K_eqLit] ([]) K_xLitText.1 K_xLitText.2 (x) := GoalW.of (vc_xLitText x) (by
  simp (maxSteps := 2000000) [-List.getD_eq_getElem?_getD, -List.mem_cons, -Bool.forall_bool, -Bool.exists_bool, and_assoc, peta, tl_inj, ex_1, ex_2, ex_3, ex_4, ex_5, ex_6, ex_7, ex_8, ex_9, ey_2, ey_3, ey_4, ey_5, ey_6, ey_7, ey_8, ey_9]
  exact ⟨h1.1, h1.2.1, h1.2.2.1.1, h1.2.2.1.2, h1.2.2.2, fun h => by have := lim_nonneg h; unfold costL at this; omega⟩)
theorem k_xLitText : SoundC Tryd.prog K_xLitText.1 K_xLitText.2 := sound_ofW hm (((((CtxOK.nil.and k_eqLit).and k_iLitText).and k_sLitText).and k_toLit).and k_szLit) (fun (x : Pl.Ltr) => []) (by kernel_rfl) fun (x : Pl.Ltr) hb => g_xLitText x hb
end Cg

/-
  Data that are trees, as they are handed to a law. No condition.
-/
set_option linter.unusedVariables false
set_option linter.unusedSimpArgs false
namespace Cg
open Go Pl
section
variable {H : Type} {P : Program} {enc : TypeId × Value → H} {w : World} {S : Nat → Prop}

theorem Opens.tree {α γ : Type} {k : Nat} {f : Tree α → Nat → AV} {t tk : TypeId} {fs : Array Field} (d : Tree α) (ht : P.underlying t = some (.struct fs)) (hk : P.underlying tk = some (.slice t)) (hS : ∀ b, b < w.heap.size → S b)
    (hc : consec P 0 fs.toList = true) (hl : P.cellsOf t = cellsF P fs.toList) (hcs : P.cellsOf t = k) (hpos : 0 < k) {Ok : Tree α → Prop} {okg : γ → Prop} {cg : γ → List AV} {c : Tree α → List AV} (mkT : γ → Tree α)
    (hf : ∀ x j, j < k → (c x).getD j .any = f x j) (hok : ∀ g, okg g → Ok (mkT g)) (hcell : ∀ g ys, okg g → RelIL S w (cg g) ys → RelIL S w (c (mkT g)) ys)
    (step : ∀ n, Opens P enc w S n tk (fun l : List (Tree α) => l.length ≤ maxLen ∧ ∀ x ∈ l, Ok x) (fun l => [.sl l.length k fun i j => f (l.getD i d) j]) → OpensF P enc w S n 0 fs.toList okg cg) (n : Nat) :
    Opens P enc w S n t Ok c ∧ Opens P enc w S n tk (fun l : List (Tree α) => l.length ≤ maxLen ∧ ∀ x ∈ l, Ok x) (fun l => [.sl l.length k fun i j => f (l.getD i d) j]) := by
  induction n with
  | zero => exact ⟨Opens.zero, Opens.zero⟩
  | succ n ih =>
    refine ⟨fun cs x hx => ?_, ?_⟩
    · obtain ⟨g, h1, h2⟩ := Opens.struct ht hc hl (step n ih.2) cs x hx
      exact ⟨mkT g, hok g h1, hcell g cs h1 h2⟩
    · exact (Opens.slice hk hS ih.1 (by omega)).weaken fun l y _ ⟨z, r, h1, h2, h3⟩ => ⟨z, r, h1, by
        rw [hcs] at h2
        refine RelI_sl_congr (fun i hi j hj => ?_) h2
        rw [List.getElem?_eq_getElem hi, ← hf _ _ hj]
        simp [hi], h3⟩

theorem cells_tp (a : ByteArray) (b : List Tm) {ys : List Value} (h : RelIL S w ([st a] ++ [terms b]) ys) : RelIL S w [st a, kidsT (.mk a b)] ys := by
  obtain ⟨y, r, e1, h1, y', r', e2, h2, e3⟩ := h
  refine ⟨y, r, e1, h1, y', r', e2, ?_, e3⟩
  exact RelI_sl_congr (fun i hi j hj => by rw [eT_tr _ j hj]; exact (subTr_get dT (Tree.mk a b) i hi j).symm) h2

/-- A term's fields, by what its kids read as. -/
theorem OpensF.term {f0 f1 : Field} {t : TypeId} (h0 : P.underlying f0.type = some .string) (n : Nat)
    (h1 : Opens P enc w S n f1.type (fun l : List Tm => l.length ≤ maxLen ∧ ∀ x ∈ l, MlT x) (fun l => [terms l])) :
    OpensF P enc w S n 0 [f0, f1] (fun x : TP => x.1.size ≤ maxLen ∧ x.2.length ≤ maxLen ∧ ∀ u ∈ x.2, MlT u) (fun x => [st x.1] ++ [terms x.2]) :=
  OpensF.cons (OpensA.string h0 n) (OpensF.one h1)

theorem Opens.terms {t tk : TypeId} {f0 f1 : Field} (ht : P.underlying t = some (.struct #[f0, f1])) (h0 : P.underlying f0.type = some .string) (h1 : f1.type = tk) (hk : P.underlying tk = some (.slice t)) (hS : ∀ b, b < w.heap.size → S b)
    (hc : consec P 0 [f0, f1] = true) (hl : P.cellsOf t = cellsF P [f0, f1]) (hcs : P.cellsOf t = 2) (n : Nat) :
    Opens P enc w S n t MlT (fun t => [st t.val, kidsT t]) ∧ Opens P enc w S n tk (fun l : List Tm => l.length ≤ maxLen ∧ ∀ x ∈ l, MlT x) (fun l => [Cg.terms l]) :=
  Opens.tree (f := eT) (k := 2) dT ht hk hS hc hl hcs (by decide) (mkT := fun x : TP => .mk x.1 x.2) (Ok := MlT)
    (fun x j hj => by match j, hj with
      | 0, _ => rfl
      | 1, _ => rfl)
    (fun g hg => AllT.mk ⟨hg.1, hg.2.1⟩ hg.2.2) (fun g ys _ h => cells_tp g.1 g.2 h)
    (fun n h => OpensF.term h0 n (t := t) (by rw [h1]; exact h)) n

/-- A term that is handed to a law. -/
theorem OpensA.term {t tk : TypeId} {f0 f1 : Field} (ht : P.underlying t = some (.struct #[f0, f1])) (h0 : P.underlying f0.type = some .string) (h1 : f1.type = tk) (hk : P.underlying tk = some (.slice t)) (hS : ∀ b, b < w.heap.size → S b)
    (hc : consec P 0 [f0, f1] = true) (hl : P.cellsOf t = cellsF P [f0, f1]) (hcs : P.cellsOf t = 2) : OpensA P enc w S t (fun x : TP => x.1.size ≤ maxLen ∧ x.2.length ≤ maxLen ∧ ∀ u ∈ x.2, MlT u) (fun x => [st x.1] ++ [Cg.terms x.2]) :=
  OpensA.struct ht hc hl fun n => OpensF.term h0 n (t := t) (by rw [h1]; exact (Opens.terms ht h0 h1 hk hS hc hl hcs n).2)
theorem OpensA.terms {t tk : TypeId} {f0 f1 : Field} (ht : P.underlying t = some (.struct #[f0, f1])) (h0 : P.underlying f0.type = some .string) (h1 : f1.type = tk) (hk : P.underlying tk = some (.slice t)) (hS : ∀ b, b < w.heap.size → S b)
    (hc : consec P 0 [f0, f1] = true) (hl : P.cellsOf t = cellsF P [f0, f1]) (hcs : P.cellsOf t = 2) : OpensA P enc w S tk (fun l : List Tm => l.length ≤ maxLen ∧ ∀ x ∈ l, MlT x) (fun l => [Cg.terms l]) :=
  fun n => (Opens.terms ht h0 h1 hk hS hc hl hcs n).2
theorem MlT.of {x : TP} (h : x.1.size ≤ maxLen ∧ x.2.length ≤ maxLen ∧ ∀ u ∈ x.2, MlT u) : MlT (.mk x.1 x.2) := AllT.mk ⟨h.1, h.2.1⟩ h.2.2
end
end Cg

/-
  Atoms, formulas, explanations, cases, as they are handed to a law. No condition.
-/
set_option linter.unusedVariables false
set_option linter.unusedSimpArgs false
namespace Cg
open Go Pl
section
variable {H : Type} {P : Program} {enc : TypeId × Value → H} {w : World} {S : Nat → Prop}

theorem RelIL_last {a b : AV} (h : ∀ y, RelI S w a y → RelI S w b y) : ∀ {qs : List AV} {ys : List Value}, RelIL S w (qs ++ [a]) ys → RelIL S w (qs ++ [b]) ys
  | [], ys, ⟨y, r, e, h1, h2⟩ => ⟨y, r, e, h y h1, h2⟩
  | c :: qs, ys, ⟨y, r, e, h1, h2⟩ => ⟨y, r, e, h1, RelIL_last h h2⟩
theorem kids_cell {α : Type} {k : Nat} {e : α → Nat → AV} {f : Tree α → Nat → AV} (d : Tree α) (hf : ∀ t j, j < k + 1 → f t j = eTr k e t j) (v : α) (ks : List (Tree α)) (y : Value) (h : RelI S w (.sl ks.length (k + 1) fun i j => f (ks.getD i d) j) y) : RelI S w (.sl ks.length (k + 1) (subTr k e (.mk v ks))) y :=
  RelI_sl_congr (fun i hi j hj => by rw [hf _ j hj]; exact (subTr_get d (Tree.mk v ks) i hi j).symm) h

abbrev OkT (x : TP) : Prop := x.1.size ≤ maxLen ∧ x.2.length ≤ maxLen ∧ ∀ u ∈ x.2, MlT u
abbrev OkI (x : Int) : Prop := (Lit.int .i64 x).wf = true
abbrev OkTs (l : List Tm) : Prop := l.length ≤ maxLen ∧ ∀ x ∈ l, MlT x
abbrev OkIs (l : List Int) : Prop := l.length ≤ maxLen ∧ ∀ x ∈ l, OkI x
abbrev OkAt (x : Atm) : Prop := OkI x.1 ∧ OkT x.2.1 ∧ OkT x.2.2.1 ∧ OkTs x.2.2.2.1 ∧ OkIs x.2.2.2.2.1 ∧ OkI x.2.2.2.2.2.1 ∧ True
theorem MlA.of {x : Atm} (h : OkAt x) : MlA x := ⟨MlT.of h.2.1, MlT.of h.2.2.1, ⟨h.2.2.2.1.1, h.2.2.2.1.2⟩, h.2.2.2.2.1.1⟩

abbrev GF := Int × Ltr × List Frm
abbrev OkF (g : GF) : Prop := OkI g.1 ∧ (OkAt g.2.1.1 ∧ True) ∧ (g.2.2.length ≤ maxLen ∧ ∀ x ∈ g.2.2, MlF x)
theorem MlF.of {g : GF} (h : OkF g) : MlF (.mk (g.1, g.2.1) g.2.2) := AllTr.mk ⟨MlA.of h.2.1.1, h.2.2.1⟩ h.2.2.2
abbrev GW := Int × Int × TP × List Wy
abbrev OkW (g : GW) : Prop := OkI g.1 ∧ OkI g.2.1 ∧ OkT g.2.2.1 ∧ (g.2.2.2.length ≤ maxLen ∧ ∀ x ∈ g.2.2.2, MlW x)
theorem MlW.of {g : GW} (h : OkW g) : MlW (.mk (g.1, g.2.1, g.2.2.1) g.2.2.2) := AllTr.mk ⟨MlT.of h.2.2.1, h.2.2.2.1⟩ h.2.2.2.2
abbrev GC := Int × Int × GW × List Int × TP × TP × List Cse
abbrev OkC (g : GC) : Prop := OkI g.1 ∧ OkI g.2.1 ∧ OkW g.2.2.1 ∧ OkIs g.2.2.2.1 ∧ OkT g.2.2.2.2.1 ∧ OkT g.2.2.2.2.2.1 ∧ (g.2.2.2.2.2.2.length ≤ maxLen ∧ ∀ x ∈ g.2.2.2.2.2.2, MlC x)
abbrev GC.pc (g : GC) : PC := (g.1, g.2.1, ((g.2.2.1.1, g.2.2.1.2.1, g.2.2.1.2.2.1), g.2.2.1.2.2.2), g.2.2.2.1, g.2.2.2.2.1, g.2.2.2.2.2.1)
theorem MlC.of {g : GC} (h : OkC g) : MlC (.mk g.pc g.2.2.2.2.2.2) := AllTr.mk ⟨MlW.of h.2.2.1, h.2.2.2.1.1, MlT.of h.2.2.2.2.1, MlT.of h.2.2.2.2.2.1, h.2.2.2.2.2.2.1⟩ h.2.2.2.2.2.2.2
theorem OpensA.case {t tk : TypeId} {fs : Array Field} (ht : P.underlying t = some (.struct fs)) (hk : P.underlying tk = some (.slice t)) (hS : ∀ b, b < w.heap.size → S b)
    (hc : consec P 0 fs.toList = true) (hl : P.cellsOf t = cellsF P fs.toList) (hcs : P.cellsOf t = 13)
    (step : ∀ n, Opens P enc w S n tk (fun l : List Cse => l.length ≤ maxLen ∧ ∀ x ∈ l, MlC x) (fun l => [cases l]) → OpensF P enc w S n 0 fs.toList OkC (fun g : GC => [i64 g.1, i64 g.2.1, i64 g.2.2.1.1, i64 g.2.2.1.2.1, st g.2.2.1.2.2.1.1, Cg.terms g.2.2.1.2.2.1.2, whys g.2.2.1.2.2.2, ints g.2.2.2.1, st g.2.2.2.2.1.1, Cg.terms g.2.2.2.2.1.2, st g.2.2.2.2.2.1.1, Cg.terms g.2.2.2.2.2.1.2] ++ [cases g.2.2.2.2.2.2])) :
    OpensA P enc w S t OkC (fun g : GC => [i64 g.1, i64 g.2.1, i64 g.2.2.1.1, i64 g.2.2.1.2.1, st g.2.2.1.2.2.1.1, Cg.terms g.2.2.1.2.2.1.2, whys g.2.2.1.2.2.2, ints g.2.2.2.1, st g.2.2.2.2.1.1, Cg.terms g.2.2.2.2.1.2, st g.2.2.2.2.2.1.1, Cg.terms g.2.2.2.2.2.1.2] ++ [cases g.2.2.2.2.2.2]) :=
  OpensA.struct ht hc hl fun n => step n (Opens.tree (f := eC) (k := 13) (c := fun t => [i64 t.val.1, i64 t.val.2.1, i64 t.val.2.2.1.1.1, i64 t.val.2.2.1.1.2.1, st t.val.2.2.1.1.2.2.1, Cg.terms t.val.2.2.1.1.2.2.2, whys t.val.2.2.1.2, ints t.val.2.2.2.1, st t.val.2.2.2.2.1.1, Cg.terms t.val.2.2.2.2.1.2, st t.val.2.2.2.2.2.1, Cg.terms t.val.2.2.2.2.2.2] ++ [kidsC t]) dC ht hk hS hc hl hcs (by decide)
    (mkT := fun g : GC => .mk g.pc g.2.2.2.2.2.2) (Ok := MlC)
    (fun x j hj => by match j, hj with
      | 0, _ => rfl
      | 1, _ => rfl
      | 2, _ => rfl
      | 3, _ => rfl
      | 4, _ => rfl
      | 5, _ => rfl
      | 6, _ => rfl
      | 7, _ => rfl
      | 8, _ => rfl
      | 9, _ => rfl
      | 10, _ => rfl
      | 11, _ => rfl
      | 12, _ => rfl)
    (fun g hg => MlC.of hg) (fun g ys _ h => by
      exact RelIL_last (fun y hy => kids_cell dC (fun t j hj => eC_tr t j hj) g.pc g.2.2.2.2.2.2 y hy) h) step n).2
end
end Cg

/-
  The listed tables: what the row's condition gives the machine. No condition.
-/
set_option linter.unusedVariables false
namespace Go.Proofs.YtkajadgfafpncaaDoor
open Go
def laidL : List (String × DataW Unit) := [("math/bits.deBruijn32tab", Rows.laid_math_bits_deBruijn32tab), ("math/bits.deBruijn64tab", Rows.laid_math_bits_deBruijn64tab), ("internal/strconv.uint64pow10", Rows.laid_internal_strconv_uint64pow10)]
theorem door_met (os : Os) (args : Array Value) : laidMetH Tryd.prog laidL ((World.doorLaid Tryd.prog 24 os).forCall (fun _ _ => 0) ⟨#[], args, []⟩).memory :=
  laidMetH_of_parts3 (fuel := 8) (laidMet_of_run' 8 (by kernel_rfl) (by kernel_rfl)) (by kernel_rfl) (by kernel_rfl)
theorem tab_laid {W : World} (h : laidMetH Tryd.prog laidL W) : Go.Lib.TabIs Tryd.prog W "internal/strconv.uint64pow10" .u64 Go.Lib.pow10Tab := by
  rw [MakeChecks.laidMetH_plain _ _ _ (by kernel_rfl)] at h
  have h2 := laidMet.filter (fun x => x.1 == "internal/strconv.uint64pow10") h
  have h3 : laidMet Tryd.prog (("internal/strconv.uint64pow10", Go.Lib.tabData .u64 Go.Lib.pow10Tab) :: []) W := by
    have e : (laidL.filter fun x => x.1 == "internal/strconv.uint64pow10") = ("internal/strconv.uint64pow10", Go.Lib.tabData .u64 Go.Lib.pow10Tab) :: [] := by rfl
    rw [e] at h2
    exact h2
  exact Go.Lib.tabIs_of_head (show Tryd.prog.globalNamed "internal/strconv.uint64pow10" = some 0 by kernel_rfl) (t := 189) (by kernel_rfl) Tryd.underlying189 Tryd.underlying182 (by kernel_rfl) (by kernel_rfl) h3
theorem gl_laid {W : World} (h : laidMetH Tryd.prog laidL W) : Cg.Gl (fun b => b < W.heap.size) W := fun g hg => by
  rw [show Cg.globs = [(0, fun c => c = ((List.range 20).map fun i => Value.int .u64 ((10 ^ i : Nat) : Int)).toArray)] from rfl, List.mem_singleton] at hg
  subst hg
  have ht := tab_laid h
  unfold Go.Lib.TabIs World.var? at ht
  rw [show Tryd.prog.globalNamed "internal/strconv.uint64pow10" = some 0 by kernel_rfl, Option.bind_some] at ht
  dsimp only
  split at ht
  · rename_i c T fr hc
    refine ⟨?_, c, T, fr, hc, ?_⟩
    · exact (Array.getElem?_eq_some_iff.1 hc).1
    · rw [Option.some.inj ht]
      unfold Go.Lib.pow10Tab
      rw [List.map_map]
      rfl
  · cases ht
end Go.Proofs.YtkajadgfafpncaaDoor
