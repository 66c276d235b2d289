/-
  The codes' contracts: valid atoms. No condition.
-/
import Derived.Test.YtjhiaobcbbnhnaaGreatAtmVc
import Derived.Test.YtjhiaobcbbnhnaaGreatMtmOk
import Derived.Test.YtjhiaobcbbnhnaaGreatJoinOk
import Derived.Test.YtjhiaobcbbnhnaaGreatSameOk
set_option linter.unusedVariables false
set_option linter.unusedSimpArgs false
set_option maxRecDepth 100000
set_option maxHeartbeats 1000000
namespace Pl
open Go Cg
theorem textBs_map : ∀ l : List Tm, textBs l = l.map textB
  | [] => rfl
  | t :: ts => by simp only [textBs, List.map_cons, textBs_map ts]
theorem interL_snoc {sep t : List UInt8} : ∀ {ts : List (List UInt8)}, ts ≠ [] → interL sep (ts ++ [t]) = interL sep ts ++ sep ++ t
  | [], h => absurd rfl h
  | [x], _ => by simp [interL]
  | x :: y :: r, _ => by
    have := interL_snoc (sep := sep) (t := t) (ts := y :: r) (by simp)
    simp only [List.cons_append] at this ⊢
    simp only [interL, this, List.append_assoc]
theorem interL_len (sep : List UInt8) (h1 : sep.length = 1) : ∀ ts : List (List UInt8), (interL sep ts).length ≤ sumN List.length ts + ts.length - 1
  | [] => by simp [interL]
  | [x] => by simp [interL, sumN]
  | x :: y :: r => by
    have := interL_len sep h1 (y :: r)
    simp only [interL, List.length_append, sumN, List.length_cons] at this ⊢
    omega
theorem textB_mk (v : ByteArray) (ks : List Tm) : textB (.mk v ks) = if ks = [] then bl' v else spellB (bl' v) (textBs ks) ++ [41] := by
  rw [textB]
  cases ks with
  | nil => rfl
  | cons k r => simp [spellB, textBs]
theorem spellB_step {v : List UInt8} {l : List Tm} {k : Nat} (h : k < l.length) : spellB v (textBs (l.take (k + 1))) = (spellB v (textBs (l.take k)) ++ [if k = 0 then 40 else 44]) ++ textB (l.getD k dT) := by
  rw [take_getD dT h, textBs_map, textBs_map, List.map_append]
  unfold spellB
  by_cases h0 : k = 0
  · subst h0; simp [interL]
  · have hne : (l.take k).map textB ≠ [] := by
      intro e
      have := congrArg List.length e
      rw [List.length_map, List.length_take, List.length_nil] at this
      omega
    have h2 : ((l.take k).map textB).isEmpty = false := by cases hh : (l.take k).map textB with
      | nil => exact absurd hh hne
      | cons _ _ => rfl
    have h3 : ((l.take k).map textB ++ [l.getD k dT].map textB).isEmpty = false := by cases hh : (l.take k).map textB with
      | nil => exact absurd hh hne
      | cons _ _ => rfl
    rw [h2, h3, if_neg h0]
    simp only [List.map_cons, List.map_nil, Bool.false_eq_true, if_false]
    rw [interL_snoc hne]; simp only [List.append_assoc]
mutual
theorem textB_len : ∀ t : Tm, (textB t).length ≤ 2 * costT t
  | .mk v ks => by
    have h := textBs_len ks
    have hl := interL_len [44] rfl (textBs ks)
    have hm : (textBs ks).length = ks.length := by rw [textBs_map]; simp
    rw [textB_mk]
    rw [costT]
    have e : (bl' v).length = v.size := rfl
    by_cases h0 : ks = []
    · rw [if_pos h0]; omega
    · rw [if_neg h0]
      have hp : 0 < ks.length := by cases ks with
        | nil => exact absurd rfl h0
        | cons _ _ => simp
      have hq : (textBs ks).isEmpty = false := by cases hh : textBs ks with
        | nil => rw [hh] at hm; simp at hm; omega
        | cons _ _ => rfl
      unfold spellB
      rw [hq]
      simp only [Bool.false_eq_true, if_false, List.length_append, List.length_singleton]
      omega
theorem textBs_len : ∀ l : List Tm, sumN List.length (textBs l) ≤ 2 * costTs l
  | [] => by simp [textBs, sumN]
  | t :: ts => by
    have h1 := textB_len t
    have h2 := textBs_len ts
    simp only [textBs, sumN, costTs]
    omega
end
theorem spellB_len (v : List UInt8) (l : List Tm) (k : Nat) : (spellB v (textBs (l.take k))).length ≤ v.length + 2 * costTs l + l.length + 1 := by
  have h := textBs_len l
  have e : textBs (l.take k) = (textBs l).take k := by rw [textBs_map, textBs_map, List.map_take]
  have hl := interL_len [44] rfl (textBs (l.take k))
  have hs := sumN_take_le List.length (textBs l) k
  have hm : (textBs (l.take k)).length ≤ l.length := by rw [textBs_map]; simp; omega
  rw [e] at hl hm ⊢
  unfold spellB
  split
  · omega
  · simp only [List.length_append, List.length_singleton]; omega
theorem textL_join (l : List Tm) : joinS (textL l) ⟨#[44]⟩ = mkB (interL [44] (textBs l)) := by
  unfold joinS textL
  rw [textBs_map, List.map_map]
  rfl
@[simp] theorem mkB_list (l : List UInt8) : (mkB l).data.toList = l := rfl
@[simp] theorem mkB_size (l : List UInt8) : (mkB l).size = l.length := rfl
end Pl
namespace Cg
open Go Go.Proofs Pl
theorem k_l4Text (n : Nat) : SoundC Tryz.prog (K_l4Text n).1 (K_l4Text n).2 := by
  induction n with
  | zero => exact sound_of hm CtxOK.nil (fun _ => []) (by kernel_rfl) fun x h => absurd h.2 (Nat.not_lt_zero _)
  | succ n ih => exact sound_of hm (CtxOK.nil.and (K := K_l4Text n) ih) (fun x => A_l4Text x.1 x.2) (by kernel_rfl) fun (x : TP) hl => (by
      have ht : SmT (.mk x.1 x.2) := hl.1
      have hn : manyL x.2 < n + 1 := hl.2
      clear hl
      rw [← vc_l4Text n x]
      obtain ⟨a, b⟩ := x
      dsimp only at *
      simp [-List.getD_eq_getElem?_getD, -List.mem_cons, -Bool.forall_bool, -Bool.exists_bool, and_assoc, peta, tl_inj, ex_1, ex_2, ex_3, ex_4, ex_5, ex_6, ex_7, ex_8, ex_9, ey_2, ey_3, ey_4, ey_5, ey_6, ey_7, ey_8, ey_9]
      have k1 := (SmT.kids ht).len
      have hc : a.size + b.length + costTs b ≤ 1048576 := by have h : costT (.mk a b) ≤ 1048576 := ht; rw [costT] at h; exact h
      have hb : (bl' a).length = a.size := rfl
      have hsz : ∀ k, (spell a (b.take k)).size ≤ 2097153 * 2 := fun k => by
        have := spellB_len (bl' a) b k
        show (spellB (bl' a) (textBs (b.take k))).length ≤ _
        omega
      have ht1 : ∀ t ∈ b, (textT t).size ≤ 2097152 := fun t h => by
        have h1 := textB_len t
        have h2 : costT t ≤ 1048576 := (SmT.kids ht).mem h
        show (textB t).length ≤ _
        omega
      have key : ∀ (k : Nat) (c : UInt8), k < b.length → c = (if k = 0 then 40 else 44) →
          ({ data := { toList := (spell a (List.take k b)).data.toList ++ c :: (textT (b.getD k dT)).data.toList } } : ByteArray) = spell a (b.take (k + 1)) := fun k c hk hc => by
        show mkB _ = mkB _
        rw [spellB_step hk, ← hc]
        congr 1
        show spellB (bl' a) (textBs (b.take k)) ++ c :: textB (b.getD k dT) = _
        simp
      have sz : ∀ (l : List UInt8) (c : UInt8), (ByteArray.mk ⟨l ++ [c]⟩).size = l.length + 1 := fun l c => by
        show (l ++ [c]).length = _
        simp
      refine ⟨⟨0, by simp, by show a = mkB _; rfl, rfl⟩, fun k hk => ⟨fun hlt => ⟨fun h0 => ?_, fun h0 => ?_⟩, fun hge => ⟨fun h0 => ?_, fun h0 => ?_⟩⟩⟩
      · have h1 := hsz k
        have h2 := ht1 _ (getD_mem dT hlt)
        refine ⟨by omega, hlt, (SmT.kids ht).mem (getD_mem dT hlt), by have := manyL_kids (getD_mem dT hlt); omega, ?_, k + 1, hlt, by omega, key k 40 hlt (by rw [if_pos h0]), wrap_small (by omega) (by omega)⟩
        rw [sz]
        have h3 : (spell a (b.take k)).data.toList.length = (spell a (b.take k)).size := rfl
        omega
      · have h1 := hsz k
        have h2 := ht1 _ (getD_mem dT hlt)
        refine ⟨by omega, hlt, (SmT.kids ht).mem (getD_mem dT hlt), by have := manyL_kids (getD_mem dT hlt); omega, ?_, k + 1, hlt, by omega, key k 44 hlt (by rw [if_neg h0]), wrap_small (by omega) (by omega)⟩
        rw [sz]
        have h3 : (spell a (b.take k)).data.toList.length = (spell a (b.take k)).size := rfl
        omega
      · have h1 := hsz k
        refine ⟨by omega, ?_⟩
        show mkB _ = mkB _
        rw [textB_mk, if_neg (by intro e; rw [e] at h0; simp at h0), List.take_of_length_le (by omega)]
        rfl
      · show mkB _ = mkB _
        rw [textB_mk, if_pos h0, h0, List.take_nil]
        rfl)
theorem k_lText : SoundC Tryz.prog K_lText.1 K_lText.2 := SoundC.fam (fun x => manyL x.2) fun n => k_l4Text n
theorem k_termText (n : Nat) : SoundC Tryz.prog (K_termText n).1 (K_termText n).2 := by
  induction n with
  | zero => exact sound_of hm CtxOK.nil (fun _ => []) (by kernel_rfl) fun x h => absurd h.2 (Nat.not_lt_zero _)
  | succ n ih => exact sound_of hm ((CtxOK.nil.and k_Join).and (K := K_termText n) ih) (fun x => A_termText x.1 x.2) (by kernel_rfl) fun (x : TP) hl => (by
      have ht : SmT (.mk x.1 x.2) := hl.1
      have hn : manyL x.2 < n + 1 := hl.2
      clear hl
      rw [← vc_termText n x]
      obtain ⟨a, b⟩ := x
      dsimp only at *
      simp [-List.getD_eq_getElem?_getD, -List.mem_cons, -Bool.forall_bool, -Bool.exists_bool, and_assoc, peta, tl_inj, ex_1, ex_2, ex_3, ex_4, ex_5, ex_6, ex_7, ex_8, ex_9, ey_2, ey_3, ey_4, ey_5, ey_6, ey_7, ey_8, ey_9]
      have k1 := (SmT.kids ht).len
      have hc : a.size + b.length + costTs b ≤ 1048576 := by have h : costT (.mk a b) ≤ 1048576 := ht; rw [costT] at h; exact h
      have hll : ∀ k, (textL (b.take k)).length ≤ b.length := fun k => by unfold textL; simp; omega
      refine ⟨fun h0 => ?_, fun h0 => ⟨⟨0, by simp, h0, rfl, rfl, rfl⟩, fun k hk _ => ⟨fun hlt => ?_, fun hge => ?_⟩⟩⟩
      · show a = mkB _
        rw [textB_mk, if_pos h0]; rfl
      · have hs1 : textL (b.take (k + 1)) = textL (b.take k) ++ [textT (b.getD k dT)] := by
          unfold textL; rw [take_getD dT hlt]; simp
        have h1 := hll k
        refine ⟨hlt, (SmT.kids ht).mem (getD_mem dT hlt), by have := manyL_kids (getD_mem dT hlt); omega, by omega, k + 1, hlt, h0, by omega, by rw [hs1]; simp, wrap_small (by omega) (by omega), ?_⟩
        rw [hs1]; exact strs_push
      · rw [List.take_of_length_le (by omega), textL_join]
        have hb : (bl' a).length = a.size := rfl
        have hsum := textBs_len b
        have hl := interL_len [44] rfl (textBs b)
        have hm : (textBs b).length = b.length := by rw [textBs_map]; simp
        have hlb : (textL b).length = b.length := by unfold textL; simp
        have sz : ∀ l : List UInt8, (ByteArray.mk ⟨l⟩).size = l.length := fun l => rfl
        have ha : a.data.toList.length = a.size := rfl
        simp only [mkB_list, mkB_size, sz, List.length_append, List.length_cons, List.length_nil]
        refine ⟨by show (a.size : Int) + 1 ≤ _; omega, by omega, by omega, by omega, by omega, ?_⟩
        show mkB _ = mkB _
        rw [textB_mk, if_neg h0]
        have hq : (textBs b).isEmpty = false := by cases hh : textBs b with
          | nil => rw [hh] at hm; simp at hm; exact absurd (List.length_eq_zero_iff.1 hm.symm) h0
          | cons _ _ => rfl
        unfold spellB
        rw [hq]
        simp [bl'])
theorem k_tText : SoundC Tryz.prog K_tText.1 K_tText.2 := SoundC.fam (fun x => manyL x.2) fun n => k_termText n
theorem k_l6None : SoundC Tryz.prog K_l6None.1 K_l6None.2 := sound_of hm CtxOK.nil (fun _ => []) (by kernel_rfl) fun (x : TP) hl => (by
  rw [← vc_l6None x]
  obtain ⟨a, b⟩ := x
  dsimp only at *
  simp [-List.getD_eq_getElem?_getD, -List.mem_cons, -Bool.forall_bool, -Bool.exists_bool, and_assoc, peta, tl_inj, ex_1, ex_2, ex_3, ex_4, ex_5, ex_6, ex_7, ex_8, ex_9, ey_2, ey_3, ey_4, ey_5, ey_6, ey_7, ey_8, ey_9]
  unfold noneT
  have e : a.toList = [] ↔ a = ByteArray.empty := by
    rw [← tl_inj (b := ByteArray.empty)]
    have : ByteArray.empty.toList = [] := by rw [ByteArray.toList_eq]; rfl
    rw [this]
  refine ⟨fun h => ?_, fun h => ?_⟩
  · rw [decide_eq_true (e.1 h), Bool.true_and, Bool.beq_eq_decide_eq]
    congr 1
    simp only [eq_iff_iff, List.length_eq_zero_iff, Int.natCast_eq_zero]
  · rw [decide_eq_false (fun h2 => h (e.2 h2))]; rfl)
theorem k_isNone : SoundC Tryz.prog K_isNone.1 K_isNone.2 := sound_of hm CtxOK.nil (fun _ => []) (by kernel_rfl) fun (x : TP) hl => (by
  rw [← vc_isNone x]
  obtain ⟨a, b⟩ := x
  dsimp only at *
  simp [-List.getD_eq_getElem?_getD, -List.mem_cons, -Bool.forall_bool, -Bool.exists_bool, and_assoc, peta, tl_inj, ex_1, ex_2, ex_3, ex_4, ex_5, ex_6, ex_7, ex_8, ex_9, ey_2, ey_3, ey_4, ey_5, ey_6, ey_7, ey_8, ey_9]
  unfold noneT
  have e : a.toList = [] ↔ a = ByteArray.empty := by
    rw [← tl_inj (b := ByteArray.empty)]
    have : ByteArray.empty.toList = [] := by rw [ByteArray.toList_eq]; rfl
    rw [this]
  refine ⟨fun h => ?_, fun h => ?_⟩
  · rw [decide_eq_true (e.1 h), Bool.true_and, Bool.beq_eq_decide_eq]
    congr 1
    simp only [eq_iff_iff, List.length_eq_zero_iff, Int.natCast_eq_zero]
  · rw [decide_eq_false (fun h2 => h (e.2 h2))]; rfl)
theorem num_step {nums : List Tm} {times : List Int} {k : Nat} (h1 : k < nums.length) (h2 : k < times.length) (he : numOk none nums times = numOk (prevN nums k) (nums.drop k) (times.drop k)) :
    (right (nums.getD k dT) = false → numOk none nums times = false) ∧ (timeOk (times.getD k 0) = false → numOk none nums times = false) ∧ (above (prevN nums k) (nums.getD k dT) = false → numOk none nums times = false) ∧
    (right (nums.getD k dT) = true → timeOk (times.getD k 0) = true → above (prevN nums k) (nums.getD k dT) = true → numOk none nums times = numOk (prevN nums (k + 1)) (nums.drop (k + 1)) (times.drop (k + 1))) := by
  rw [drop_get dT h1, drop_get 0 h2] at he
  simp only [numOk] at he
  refine ⟨fun h => by rw [he, h]; rfl, fun h => by rw [he, h]; simp, fun h => by rw [he, h]; simp, fun a1 a2 a3 => ?_⟩
  rw [he, a1, a2, a3]
  simp [prevN, -List.getD_eq_getElem?_getD]
theorem num_end {p : Option Tm} {nums : List Tm} {times : List Int} {k : Nat} (h1 : nums.length ≤ k) : numOk p (nums.drop k) (times.drop k) = true := by
  rw [drop_end (by omega)]; cases times.drop k <;> rfl
theorem numOk_right : ∀ {nums : List Tm} {times : List Int} {p : Option Tm}, nums.length = times.length → numOk p nums times = true → ∀ t ∈ nums, right t = true
  | [], _, _, _, _, t, h => by cases h
  | x :: nums, [], _, hl, _, _, _ => by simp at hl
  | x :: nums, n :: times, p, hl, h, t, ht => by
    simp only [numOk, Bool.and_eq_true] at h
    rcases List.mem_cons.1 ht with e | e
    · subst e; exact h.1.1.1
    · exact numOk_right (by simpa using hl) h.2 t e
theorem head_iff (kind : Int) (a b : TP) (nums : List Tm) (times : List Int) (bound : Int) (strict : Bool) : sumHead (kind, a, b, nums, times, bound, strict) = true ↔ noneT a = true ∧ noneT b = true ∧ nums.length = times.length ∧ 1 ≤ nums.length ∧ nums.length ≤ 4 ∧ -1000 ≤ bound ∧ bound ≤ 1000 := by
  simp only [sumHead, Bool.and_eq_true, decide_eq_true_eq, and_assoc]
theorem above_prev {nums : List Tm} {k : Nat} (h : 0 < k) : above (prevN nums k) (nums.getD k dT) = Op.bytesLess (textT (nums.getD (k - 1) dT)).toList (textT (nums.getD k dT)).toList := by
  unfold prevN; rw [if_neg (by omega)]; rfl
theorem above_none {nums : List Tm} {k : Nat} (h : k = 0) : above (prevN nums k) (nums.getD k dT) = true := by
  unfold prevN; rw [if_pos h]; rfl
theorem timeOk_iff {n : Int} : timeOk n = true ↔ n ≠ 0 ∧ -50 ≤ n ∧ n ≤ 50 := by
  simp only [timeOk, Bool.and_eq_true, decide_eq_true_eq, and_assoc]
theorem timeOk_no {n : Int} (h : ¬ (n ≠ 0 ∧ -50 ≤ n ∧ n ≤ 50)) : timeOk n = false := by
  cases e : timeOk n with
  | false => rfl
  | true => exact absurd (timeOk_iff.1 e) h

theorem k_l6Sum : SoundC Tryz.prog K_l6Sum.1 K_l6Sum.2 := sound_of hm (((CtxOK.nil.and k_lText).and k_l4Right).and k_l6None) (fun x => A_l6Sum x) (by kernel_rfl) fun (x : Atm) hl => (by
  have hs : SmA x := hl
  clear hl
  rw [← vc_l6Sum x]
  obtain ⟨kind, ⟨a, b⟩, ⟨c, d⟩, nums, times, bound, strict⟩ := x
  dsimp only at *
  simp [-List.getD_eq_getElem?_getD, -List.mem_cons, -Bool.forall_bool, -Bool.exists_bool, and_assoc, peta, tl_inj, ex_1, ex_2, ex_3, ex_4, ex_5, ex_6, ex_7, ex_8, ex_9, ey_2, ey_3, ey_4, ey_5, ey_6, ey_7, ey_8, ey_9]
  obtain ⟨_, _, q3, q4⟩ : SmT (.mk a b) ∧ SmT (.mk c d) ∧ SmTs nums ∧ times.length ≤ 1048576 := SmA.parts hs
  have q5 := q3.len
  have hd := head_iff kind (a, b) (c, d) nums times bound strict
  generalize hX : ((kind, (a, b), (c, d), nums, times, bound, strict) : Atm) = X at *
  have eN : sumRight X = (sumHead X && numOk none nums times) := by subst hX; rfl
  clear hs
  have noH : (sumHead X = true → False) → sumRight X = false := fun h => by
    rw [eN]
    cases e : sumHead X with
    | false => rfl
    | true => exact (h e).elim
  have noN : numOk none nums times = false → sumRight X = false := fun h => by rw [eN, h]; simp
  refine ⟨fun g1 => noH fun h => (by rw [(hd.1 h).1] at g1; cases g1), fun g1 => ⟨fun g2 => noH fun h => (by rw [(hd.1 h).2.1] at g2; cases g2), fun g2 => ⟨fun g3 => noH fun h => (by have := hd.1 h; omega), fun g3 => ⟨fun g4 => noH fun h => (by have := hd.1 h; omega), fun g4 => ⟨fun g5 => noH fun h => (by have := hd.1 h; omega), fun g5 => ⟨fun g6 => noH fun h => (by have := hd.1 h; omega), fun g6 => ⟨fun g7 => noH fun h => (by have := hd.1 h; omega), fun g7 => ?_⟩⟩⟩⟩⟩⟩⟩
  have g3' : nums.length = times.length := by omega
  have hh : sumHead X = true := hd.2 ⟨g1, g2, by omega, by omega, by omega, g6, g7⟩
  refine ⟨hh, ⟨0, by simp, by simp [prevN], rfl⟩, fun k _ hk he => ⟨fun hlt => ?_, fun hge => ?_⟩⟩
  · obtain ⟨e1, e2, e3, e4⟩ := num_step hlt (by omega) he
    refine ⟨by omega, hlt, q3.mem (getD_mem dT hlt), fun h => noN (e1 h), fun r1 => ⟨fun h => noN (e2 (timeOk_no (by omega))), fun r2 => ⟨fun h => noN (e2 (timeOk_no (by omega))), fun r3 => ⟨fun h => noN (e2 (timeOk_no (by omega))), fun r4 => ⟨fun hp => ?_, fun hz => ⟨hh, k + 1, hlt, e4 r1 (timeOk_iff.2 ⟨r2, r3, r4⟩) (above_none hz), by omega, wrap_small (by omega) (by omega)⟩⟩⟩⟩⟩⟩
    rw [wrap_small (x := (k : Int) - 1) (by omega) (by omega)]
    have e : ((k : Int) - 1).toNat = k - 1 := by omega
    rw [e]
    have hab := above_prev (nums := nums) hp
    exact ⟨by omega, by omega, by omega, q3.mem (getD_mem dT (by omega)), hlt, q3.mem (getD_mem dT hlt), fun h => noN (e3 (by rw [hab]; exact h)), fun h => ⟨hh, k + 1, hlt, e4 r1 (timeOk_iff.2 ⟨r2, r3, r4⟩) (by rw [hab]; exact h), by omega, wrap_small (by omega) (by omega)⟩⟩
  · rw [eN, hh, he, num_end hge]; rfl)
theorem k_l6Right : SoundC Tryz.prog K_l6Right.1 K_l6Right.2 := sound_of hm ((CtxOK.nil.and k_l4Right).and k_l6Sum) (fun _ => []) (by kernel_rfl) fun (x : Atm) hl => (by
  have hs : SmA x := hl
  clear hl
  rw [← vc_l6Right x]
  obtain ⟨kind, ⟨a, b⟩, ⟨c, d⟩, nums, times, bound, strict⟩ := x
  dsimp only at *
  simp [-List.getD_eq_getElem?_getD, -List.mem_cons, -Bool.forall_bool, -Bool.exists_bool, and_assoc, peta, tl_inj, ex_1, ex_2, ex_3, ex_4, ex_5, ex_6, ex_7, ex_8, ex_9, ey_2, ey_3, ey_4, ey_5, ey_6, ey_7, ey_8, ey_9]
  obtain ⟨q1, q2, _, _⟩ := SmA.parts hs
  have e2 : kind = 2 → atomRight (kind, (a, b), (c, d), nums, times, bound, strict) = sumRight (kind, (a, b), (c, d), nums, times, bound, strict) := fun h => by unfold atomRight; rw [if_pos h]
  have e1 : ¬ kind = 2 → atomRight (kind, (a, b), (c, d), nums, times, bound, strict) = (decide (kind = 1) && (right (.mk a b) && right (.mk c d) && decide (nums = []) && decide (times = []) && decide (bound = 0) && !strict)) := fun h => by unfold atomRight; rw [if_neg h]; rfl
  refine ⟨fun h => ⟨hs, (e2 h).symm⟩, fun h => ⟨fun g => ⟨q1, fun g1 => ⟨q2, fun g2 => ⟨fun g3 => ⟨fun g4 => ⟨fun g5 => ?_, fun g5 => ?_⟩, fun g4 => ?_⟩, fun g3 => ?_⟩, fun g2 => ?_⟩, fun g1 => ?_⟩, fun g => ?_⟩⟩
  · rw [e1 h, g1, g2, decide_eq_true g, decide_eq_true g3, decide_eq_true g4, decide_eq_true g5]; simp
  · rw [e1 h, decide_eq_false g5]; simp
  · rw [e1 h, decide_eq_false g4]; simp
  · rw [e1 h, decide_eq_false g3]; simp
  · rw [e1 h, g2]; simp
  · rw [e1 h, g1]; simp
  · rw [e1 h, decide_eq_false g]; simp)
theorem k_Atomok : SoundC Tryz.prog K_Atomok.1 K_Atomok.2 := sound_of hm ((((CtxOK.nil.and k_tText).and k_within).and k_isNone).and k_isTerm) (fun x => A_Atomok x) (by kernel_rfl) fun (x : Atm) hl => (by
  have hs : SmA x := hl
  clear hl
  rw [← vc_Atomok x]
  obtain ⟨kind, ⟨a, b⟩, ⟨c, d⟩, nums, times, bound, strict⟩ := x
  dsimp only at *
  simp [-List.getD_eq_getElem?_getD, -List.mem_cons, -Bool.forall_bool, -Bool.exists_bool, and_assoc, peta, tl_inj, ex_1, ex_2, ex_3, ex_4, ex_5, ex_6, ex_7, ex_8, ex_9, ey_2, ey_3, ey_4, ey_5, ey_6, ey_7, ey_8, ey_9]
  obtain ⟨q1, q2, q3, q4⟩ : SmT (.mk a b) ∧ SmT (.mk c d) ∧ SmTs nums ∧ times.length ≤ 1048576 := SmA.parts hs
  have q5 := q3.len
  have hd := head_iff kind (a, b) (c, d) nums times bound strict
  have e1 : ¬ kind = 2 → atomRight (kind, (a, b), (c, d), nums, times, bound, strict) = (decide (kind = 1) && (right (.mk a b) && right (.mk c d) && decide (nums = []) && decide (times = []) && decide (bound = 0) && !strict)) := fun h => by unfold atomRight; rw [if_neg h]; rfl
  have e2 : kind = 2 → atomRight (kind, (a, b), (c, d), nums, times, bound, strict) = (sumHead (kind, (a, b), (c, d), nums, times, bound, strict) && numOk none nums times) := fun h => by unfold atomRight; rw [if_pos h]; rfl
  generalize hX : ((kind, (a, b), (c, d), nums, times, bound, strict) : Atm) = X at *
  clear hs
  refine ⟨fun g => ?_, fun g => ⟨fun g' => ?_, fun g' => by rw [e1 g', decide_eq_false g]; simp⟩⟩
  · have h : ¬ kind = 2 := by omega
    refine ⟨q1, fun g1 => ⟨q2, fun g2 => ⟨fun g3 => ⟨fun g4 => ⟨fun g5 => ?_, fun g5 => ?_⟩, fun g4 => ?_⟩, fun g3 => ?_⟩, fun g2 => ?_⟩, fun g1 => ?_⟩
    · rw [e1 h, g1, g2, decide_eq_true g, decide_eq_true g3, decide_eq_true g4, decide_eq_true g5]; simp
    · rw [e1 h, decide_eq_false g5]; simp
    · rw [e1 h, decide_eq_false g4]; simp
    · rw [e1 h, decide_eq_false g3]; simp
    · rw [e1 h, g2]; simp
    · rw [e1 h, g1]; simp
  · have eN := e2 g'
    have noH : (sumHead X = true → False) → atomRight X = false := fun h => by
      rw [eN]
      cases e : sumHead X with
      | false => rfl
      | true => exact (h e).elim
    have noN : numOk none nums times = false → atomRight X = false := fun h => by rw [eN, h]; simp
    have win : ∀ {x lo hi : Int}, withinI x lo hi = false ↔ ¬ (lo ≤ x ∧ x ≤ hi) := fun {x lo hi} => by
      simp only [withinI, Bool.and_eq_false_iff, decide_eq_false_iff_not]; omega
    have wiy : ∀ {x lo hi : Int}, withinI x lo hi = true ↔ (lo ≤ x ∧ x ≤ hi) := fun {x lo hi} => by
      simp only [withinI, Bool.and_eq_true, decide_eq_true_eq]
    refine ⟨fun g1 => noH fun h => (by rw [(hd.1 h).1] at g1; cases g1), fun g1 => ⟨fun g2 => noH fun h => (by rw [(hd.1 h).2.1] at g2; cases g2), fun g2 => ⟨fun g3 => noH fun h => (by have := hd.1 h; have := win.1 g3; omega), fun g3 => ⟨fun g4 => noH fun h => (by have := hd.1 h; omega), fun g4 => ⟨fun g5 => noH fun h => (by have := hd.1 h; have := win.1 g5; omega), fun g5 => ?_⟩⟩⟩⟩⟩
    have g3' := wiy.1 g3
    have g5' := wiy.1 g5
    have hh : sumHead X = true := hd.2 ⟨g1, g2, by omega, by omega, by omega, g5'.1, g5'.2⟩
    refine ⟨g', hh, ⟨0, by simp, by simp [prevN], rfl⟩, fun k _ _ hk he => ⟨fun hlt => ?_, fun hge => ?_⟩⟩
    · obtain ⟨f1, f2, f3, f4⟩ := num_step hlt (by omega) he
      refine ⟨hlt, q3.mem (getD_mem dT hlt), fun h => noN (f1 h), fun r1 => ⟨by omega, fun h => noN (f2 (timeOk_no (by have := win.1 h; omega))), fun r2 => ⟨by omega, fun h => noN (f2 (timeOk_no (by omega))), fun r3 => ⟨fun hp => ?_, fun hz => ⟨g', hh, k + 1, hlt, f4 r1 (timeOk_iff.2 ⟨r3, wiy.1 r2⟩) (above_none hz), by omega, wrap_small (by omega) (by omega)⟩⟩⟩⟩⟩
      rw [wrap_small (x := (k : Int) - 1) (by omega) (by omega)]
      have e : ((k : Int) - 1).toNat = k - 1 := by omega
      rw [e]
      have hab := above_prev (nums := nums) hp
      exact ⟨by omega, by omega, by omega, q3.mem (getD_mem dT (by omega)), q3.mem (getD_mem dT hlt), fun h => noN (f3 (by rw [hab]; exact h)), fun h => ⟨g', hh, k + 1, hlt, f4 r1 (timeOk_iff.2 ⟨r3, wiy.1 r2⟩) (by rw [hab]; exact h), by omega, wrap_small (by omega) (by omega)⟩⟩
    · rw [eN, hh, he, num_end hge]; rfl)
theorem right_eq {kind : Int} {a b : TP} {nums : List Tm} {times : List Int} {bound : Int} {strict : Bool} (h : atomRight (kind, a, b, nums, times, bound, strict) = true) :
    (kind = 1 → right (.mk a.1 a.2) = true ∧ right (.mk b.1 b.2) = true) ∧ (¬ kind = 1 → ∀ t ∈ nums, right t = true) := by
  unfold atomRight at h
  split at h
  · rename_i h2
    have h2 : kind = 2 := h2
    refine ⟨fun h1 => by omega, fun _ => ?_⟩
    simp only [sumRight, Bool.and_eq_true] at h
    exact numOk_right ((head_iff kind a b nums times bound strict).1 h.1).2.2.1 h.2
  · simp only [eqRight, Bool.and_eq_true, decide_eq_true_eq] at h
    exact ⟨fun _ => ⟨h.2.1.1.1.1.1, h.2.1.1.1.1.2⟩, fun h1 => absurd h.1 h1⟩
theorem isNum_iff {s : Sig} {t : Tm} (hs : sigOk s = true) (hr : right t = true) : isNum s t = true ↔ (sortT s t).getD (-1) = 1 := by
  unfold isNum
  rw [ts_yes hs hr]
  cases sortT s t with
  | none => simp
  | some n => simp
theorem eqSorted_iff {s : Sig} {a b : Tm} (hs : sigOk s = true) (h1 : right a = true) (h2 : right b = true) : eqSorted s a b = (decide (0 ≤ (sortT s a).getD (-1)) && decide ((sortT s a).getD (-1) = (sortT s b).getD (-1))) := by
  unfold eqSorted
  rw [ts_yes hs h1, ts_yes hs h2]
  cases ea : sortT s a with
  | none => simp
  | some n =>
    have hn := sortT_sort hs ea
    cases eb : sortT s b with
    | none =>
      simp only [Option.isSome_some, Option.isSome_none, Bool.and_false, Bool.false_and, Option.getD_some, Option.getD_none]
      rw [decide_eq_false (by omega : ¬ n = -1)]; simp
    | some m =>
      simp only [Option.isSome_some, Bool.true_and, Option.getD_some]
      rw [decide_eq_true (by omega : 0 ≤ n)]; simp

theorem k_sAtomOk : SoundC Tryz.prog K_sAtomOk.1 K_sAtomOk.2 := sound_of hm (((CtxOK.nil.and k_lOf).and k_l6Right).and k_sSigOk) (fun x => A_sAtomOk x.1 x.2) (by kernel_rfl) fun (x : Sig × Atm) hl => (by
  have hg : SmG x.1 := hl.1
  have hs : SmA x.2 := hl.2
  clear hl
  rw [← vc_sAtomOk x]
  obtain ⟨s, kind, ⟨a, b⟩, ⟨c, d⟩, nums, times, bound, strict⟩ := x
  dsimp only at *
  simp [-List.getD_eq_getElem?_getD, -List.mem_cons, -Bool.forall_bool, -Bool.exists_bool, and_assoc, peta, tl_inj, ex_1, ex_2, ex_3, ex_4, ex_5, ex_6, ex_7, ex_8, ex_9, ey_2, ey_3, ey_4, ey_5, ey_6, ey_7, ey_8, ey_9]
  obtain ⟨q1, q2, q3, q4⟩ : SmT (.mk a b) ∧ SmT (.mk c d) ∧ SmTs nums ∧ times.length ≤ 1048576 := SmA.parts hs
  have q5 := q3.len
  have e0 : atomOk s (kind, (a, b), (c, d), nums, times, bound, strict) = (sigOk s && atomRight (kind, (a, b), (c, d), nums, times, bound, strict) && if kind = 1 then eqSorted s (.mk a b) (.mk c d) else nums.all (isNum s)) := rfl
  have hr := right_eq (kind := kind) (a := (a, b)) (b := (c, d)) (nums := nums) (times := times) (bound := bound) (strict := strict)
  generalize hX : ((kind, (a, b), (c, d), nums, times, bound, strict) : Atm) = X at *
  refine ⟨hg, fun h => by rw [e0, h]; rfl, fun h => ⟨hs, fun h2 => by rw [e0, h2]; simp, fun h2 => ⟨fun g => ⟨h, hg, q1, fun g1 => ⟨h, hg, q2, ?_⟩, fun g1 => ?_⟩, fun g => ⟨h, h2, g, ⟨0, by simp, by simp, rfl⟩, fun k _ _ _ hk he => ⟨fun hlt => ?_, fun hge => ?_⟩⟩⟩⟩⟩
  · rw [e0, h, h2, if_pos g, eqSorted_iff h ((hr h2).1 g).1 ((hr h2).1 g).2, decide_eq_true g1, Bool.beq_eq_decide_eq]; simp
  · have hra : right (.mk a b) = true := ((hr h2).1 g).1
    have hrb : right (.mk c d) = true := ((hr h2).1 g).2
    rw [e0, h, h2, if_pos g, eqSorted_iff h hra hrb, decide_eq_false (by omega : ¬ 0 ≤ (sortT s (Tree.mk a b)).getD (-1))]; simp
  · have hi := isNum_iff h ((hr h2).2 g _ (getD_mem dT hlt))
    rw [drop_get dT hlt, List.all_cons] at he
    refine ⟨hlt, h, hg, q3.mem (getD_mem dT hlt), fun h3 => ?_, fun h3 => ⟨h, h2, g, k + 1, hlt, ?_, by omega, wrap_small (by omega) (by omega)⟩⟩
    · have : isNum s (nums.getD k dT) = false := by cases e : isNum s (nums.getD k dT) with
        | false => rfl
        | true => exact absurd (hi.1 e) h3
      rw [e0, if_neg g, he, this]; simp
    · rw [he, hi.2 h3]; rfl
  · rw [drop_end (by omega)] at he
    rw [e0, h, h2, if_neg g, he]; rfl)
theorem k_isNumber : SoundC Tryz.prog K_isNumber.1 K_isNumber.2 := sound_of hm (CtxOK.nil.and k_iTermSort) (fun _ => []) (by kernel_rfl) fun (x : Sig × TP) hl => (by
  have hg : SmG x.1 := hl.1
  have ht : SmT (.mk x.2.1 x.2.2) := hl.2
  clear hl
  rw [← vc_isNumber x]
  obtain ⟨s, a, b⟩ := x
  dsimp only at *
  simp [-List.getD_eq_getElem?_getD, -List.mem_cons, -Bool.forall_bool, -Bool.exists_bool, and_assoc, peta, tl_inj, ex_1, ex_2, ex_3, ex_4, ex_5, ex_6, ex_7, ex_8, ex_9, ey_2, ey_3, ey_4, ey_5, ey_6, ey_7, ey_8, ey_9]
  unfold isNum
  exact ⟨hg, ht, fun h => by rw [h, Bool.true_and, Bool.beq_eq_decide_eq], fun h => by rw [h]; rfl⟩)
theorem k_AtomOk1 : SoundC Tryz.prog K_AtomOk1.1 K_AtomOk1.2 := sound_of hm (CtxOK.nil.and k_isNumber) (fun _ => []) (by kernel_rfl) fun (x : TP × Sig) hl => (by
  have hg : SmG x.2 := hl.1
  have ht : SmT (.mk x.1.1 x.1.2) := hl.2
  clear hl
  rw [← vc_AtomOk1 x]
  obtain ⟨⟨a, b⟩, s⟩ := x
  dsimp only at *
  simp [-List.getD_eq_getElem?_getD, -List.mem_cons, -Bool.forall_bool, -Bool.exists_bool, and_assoc, peta, tl_inj, ex_1, ex_2, ex_3, ex_4, ex_5, ex_6, ex_7, ex_8, ex_9, ey_2, ey_3, ey_4, ey_5, ey_6, ey_7, ey_8, ey_9]
  exact ⟨hg, ht⟩)
theorem k_IndexTerm : SoundC Tryz.prog K_IndexTerm.1 K_IndexTerm.2 := sound_of hm (CtxOK.nil.and k_AtomOk1) (fun x => A_IndexTerm x.1 x.2) (by kernel_rfl) fun (x : List Tm × Sig) hl => (by
  have hg : SmG x.2 := hl.2
  have ht : SmTs x.1 := hl.1
  clear hl
  rw [← vc_IndexTerm x]
  obtain ⟨l, s⟩ := x
  dsimp only at *
  simp [-List.getD_eq_getElem?_getD, -List.mem_cons, -Bool.forall_bool, -Bool.exists_bool, and_assoc, peta, tl_inj, ex_1, ex_2, ex_3, ex_4, ex_5, ex_6, ex_7, ex_8, ex_9, ey_2, ey_3, ey_4, ey_5, ey_6, ey_7, ey_8, ey_9]
  have hlen := ht.len
  exact ⟨⟨0, by simp, idx_init _ _, rfl⟩, fun k hk he => ⟨fun hlt => ⟨hlt, hg, ht.mem (getD_mem dT hlt), fun h => (idx_step dT _ hlt he).1 (by simp [h, -List.getD_eq_getElem?_getD]), fun h => ⟨k + 1, hlt, (idx_step dT _ hlt he).2 (by simp [h, -List.getD_eq_getElem?_getD]), by omega, wrap_small (by omega) (by omega)⟩⟩, fun hge => idx_end _ hge he⟩⟩)
theorem k_ContainsTerm : SoundC Tryz.prog K_ContainsTerm.1 K_ContainsTerm.2 := sound_of hm (CtxOK.nil.and k_IndexTerm) (fun _ => []) (by kernel_rfl) fun (x : List Tm × Sig) hl => (by
  have hg : SmG x.2 := hl.2
  have ht : SmTs x.1 := hl.1
  clear hl
  rw [← vc_ContainsTerm x]
  obtain ⟨l, s⟩ := x
  dsimp only at *
  simp only [idx_any]
  simp [-List.getD_eq_getElem?_getD, -List.mem_cons, -Bool.forall_bool, -Bool.exists_bool, and_assoc, peta, tl_inj, ex_1, ex_2, ex_3, ex_4, ex_5, ex_6, ex_7, ex_8, ex_9, ey_2, ey_3, ey_4, ey_5, ey_6, ey_7, ey_8, ey_9]
  exact ⟨ht, hg⟩)
theorem k_Eqsorted : SoundC Tryz.prog K_Eqsorted.1 K_Eqsorted.2 := sound_of hm (CtxOK.nil.and k_iTermSort) (fun _ => []) (by kernel_rfl) fun (x : TP × TP × Sig) hl => (by
  obtain ⟨h1, h2, h3⟩ : SmT (.mk x.1.1 x.1.2) ∧ SmT (.mk x.2.1.1 x.2.1.2) ∧ SmG x.2.2 := hl
  rw [← vc_Eqsorted x]
  obtain ⟨⟨a, b⟩, ⟨c, d⟩, s⟩ := x
  dsimp only at *
  simp [-List.getD_eq_getElem?_getD, -List.mem_cons, -Bool.forall_bool, -Bool.exists_bool, and_assoc, peta, tl_inj, ex_1, ex_2, ex_3, ex_4, ex_5, ex_6, ex_7, ex_8, ex_9, ey_2, ey_3, ey_4, ey_5, ey_6, ey_7, ey_8, ey_9]
  unfold eqSorted
  exact ⟨h3, h1, h3, h2, fun g1 => ⟨fun g2 => by rw [g1, g2, Bool.beq_eq_decide_eq]; rfl, fun g2 => by rw [g2]; simp⟩, fun g1 => by rw [g1]; rfl⟩)
theorem k_iAtomOk : SoundC Tryz.prog K_iAtomOk.1 K_iAtomOk.2 := sound_of hm ((((CtxOK.nil.and k_ContainsTerm).and k_Eqsorted).and k_Atomok).and k_iSigOk) (fun _ => []) (by kernel_rfl) fun (x : Sig × Atm) hl => (by
  have hg : SmG x.1 := hl.1
  have hs : SmA x.2 := hl.2
  clear hl
  rw [← vc_iAtomOk x]
  obtain ⟨s, kind, ⟨a, b⟩, ⟨c, d⟩, nums, times, bound, strict⟩ := x
  dsimp only at *
  simp [-List.getD_eq_getElem?_getD, -List.mem_cons, -Bool.forall_bool, -Bool.exists_bool, and_assoc, peta, tl_inj, ex_1, ex_2, ex_3, ex_4, ex_5, ex_6, ex_7, ex_8, ex_9, ey_2, ey_3, ey_4, ey_5, ey_6, ey_7, ey_8, ey_9]
  obtain ⟨q1, q2, q3, q4⟩ : SmT (.mk a b) ∧ SmT (.mk c d) ∧ SmTs nums ∧ times.length ≤ 1048576 := SmA.parts hs
  have e0 : atomOk s (kind, (a, b), (c, d), nums, times, bound, strict) = (sigOk s && atomRight (kind, (a, b), (c, d), nums, times, bound, strict) && if kind = 1 then eqSorted s (.mk a b) (.mk c d) else nums.all (isNum s)) := rfl
  generalize hX : ((kind, (a, b), (c, d), nums, times, bound, strict) : Atm) = X at *
  refine ⟨hg, fun h => by rw [e0, h]; rfl, fun h => ⟨hs, fun h2 => by rw [e0, h2]; simp, fun h2 => ⟨fun g => ⟨q1, q2, hg, ?_⟩, fun g => ⟨q3, hg, ?_⟩⟩⟩⟩
  · rw [e0, h, h2, if_pos g]; rfl
  · rw [e0, h, h2, if_neg g, all_any]; simp)
end Cg
