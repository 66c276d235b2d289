/-
  The codes' contracts: drawn clause sets. No condition.
-/
import Derived.Test.YtgobdkgdhmkegaaDrawVc
import Derived.Test.YtgobdkgdhmkegaaDrawPick
import Derived.Test.YtgobdkgdhmkegaaDrawLaw
set_option linter.unusedVariables false
set_option linter.unusedSimpArgs false
set_option maxRecDepth 100000
namespace Cg
open Go Go.Proofs

theorem k_num : SoundC Try.prog K_num.1 K_num.2 := sound_of hm (CtxOK.nil.and k_pick) (fun _ => []) (by kernel_rfl) fun (b, p, l) hb => cast (vc_num b p l) (by
  obtain ⟨h1, h2, h3⟩ : Rd 1099511627776 b p ∧ l ≠ [] ∧ Sz l := hb
  simp [-List.getD_eq_getElem?_getD, and_assoc]
  have hl : 0 < l.length := List.length_pos_iff.2 h2
  exact ⟨b, p, h1, rfl, rfl, fun y h4 h5 => by
    obtain ⟨h6, h7⟩ := h4 (by omega)
    exact ⟨h6, h7, by omega, _, getD_mem 0 (by omega), rfl, rfl, rfl⟩⟩)

theorem k_l1Max2 : SoundC Try.prog K_l1Max2.1 K_l1Max2.2 := sound_of hm CtxOK.nil (fun _ => []) (by kernel_rfl) fun (x, y) _ => cast (vc_l1Max2 x y) (by
  simp only [condP_dec]
  exact ⟨fun h => by rw [if_pos h], fun h => by rw [if_neg h]⟩)

theorem k_l10Mark : SoundC Try.prog K_l10Mark.1 K_l10Mark.2 := sound_of hm (((CtxOK.nil.and k_l1Max2).and k_num).and k_pick) (fun _ => []) (by kernel_rfl) fun (b, p, n) hb => cast (vc_l10Mark b p n) (by
  replace hb : Rd 549755813888 b p := hb
  simp [-List.getD_eq_getElem?_getD, and_assoc]
  obtain ⟨g1, g2, g3, g4⟩ := hb
  have r1 : Rd 1099511627776 b p := ⟨g1, g2, g3, by omega⟩
  have r2 : Rd 1099511627776 b (p + 1) := ⟨g1, g2, by omega, by omega⟩
  have r3 : Rd 1099511627776 b (p + 1 + 1) := ⟨g1, g2, by omega, by omega⟩
  exact ⟨b, p, r1, rfl, rfl, fun y _ _ => ⟨fun _ => ⟨b, p + 1, r2, _, by simp, by simp, rfl, rfl, rfl, fun z _ => ⟨z, p + 1 + 1, by omega, by omega, rfl, rfl, rfl⟩⟩,
    fun _ => ⟨b, p + 1, r2, rfl, rfl, fun z _ _ => ⟨b, p + 1 + 1, r3, rfl, rfl, fun z' _ _ => ⟨fun _ => ⟨_, p + 1 + 1 + 1, by omega, by omega, rfl, rfl, rfl⟩, fun _ => ⟨_, p + 1 + 1 + 1, by omega, by omega, rfl, rfl, rfl⟩⟩⟩⟩⟩⟩)

theorem k_l10Marks : SoundC Try.prog K_l10Marks.1 K_l10Marks.2 := sound_of hm (CtxOK.nil.and k_l10Mark) (fun (b, p, m, n) => A_l10Marks b p m n) (by kernel_rfl) fun (b, p, m, n) hb => cast (vc_l10Marks b p m n) (by
  obtain ⟨hr, hn⟩ : Rd 274877906944 b p ∧ n ≤ 100 := hb
  simp [-List.getD_eq_getElem?_getD, and_assoc]
  obtain ⟨g1, g2, g3, g4⟩ := hr
  refine ⟨⟨0, [], rfl, .inr rfl, p, by omega, by omega, rfl, rfl, rfl, rfl⟩, fun k out q hk hc hq1 hq2 => ⟨fun hlt => ?_, fun hge => ?_⟩⟩
  · refine ⟨b, q, ⟨g1, g2, by omega, by omega⟩, rfl, rfl, fun v q' h1 h2 => ⟨by omega, k + 1, out ++ [v], by simp [hk], by omega, q', by omega, by omega, by omega, by simp, by rw [wrap_small (by omega) (by omega)]; omega, rfl, rfl, ints_push⟩⟩
  · exact ⟨out, by omega, q, by omega, by omega, rfl, rfl⟩)

theorem k_l10Vals : SoundC Try.prog K_l10Vals.1 K_l10Vals.2 := sound_of hm (CtxOK.nil.and k_pick) (fun (b, p, m) => A_l10Vals b p m) (by kernel_rfl) fun (b, p, m) hb => cast (vc_l10Vals b p m) (by
  obtain ⟨hr, hn⟩ : Rd 274877906944 b p ∧ m ≤ 100 := hb
  simp [-List.getD_eq_getElem?_getD, and_assoc]
  obtain ⟨g1, g2, g3, g4⟩ := hr
  refine ⟨⟨0, [], rfl, .inr rfl, p, by omega, by omega, rfl, rfl, rfl, rfl⟩, fun k out q hk hc hq1 hq2 => ⟨fun hlt => ?_, fun hge => ?_⟩⟩
  · refine ⟨b, q, ⟨g1, g2, by omega, by omega⟩, rfl, rfl, fun v h1 h2 => ⟨by omega, k + 1, out ++ [v == 0], by simp [hk], by omega, q + 1, by omega, by omega, by omega, by simp, by rw [wrap_small (by omega) (by omega)]; omega, rfl, rfl, bools_push⟩⟩
  · exact ⟨b, q, ⟨g1, g2, by omega, by omega⟩, rfl, rfl, fun v h1 h2 => ⟨fun _ => ⟨by omega, out ++ [true], by simp; omega, q + 1, by omega, by omega, ((Rds.cel EncN.eB out).join (Rds.row (bools_row true))).is, rfl, rfl⟩, fun _ => ⟨out, by omega, q + 1, by omega, by omega, rfl, rfl, rfl⟩⟩⟩)

theorem beq_eq_decide (x y : Int) : (x == y) = decide (x = y) := by rw [Bool.eq_iff_iff]; simp

theorem k_l10Put : SoundC Try.prog K_l10Put.1 K_l10Put.2 := sound_of hm (CtxOK.nil.and k_l10Abs) (fun (l, n) => A_l10Put l n) (by kernel_rfl) fun (l, n) hl => cast (vc_l10Put l n) (by
  replace hl : SzH l := hl
  simp [-List.getD_eq_getElem?_getD, and_assoc]
  have tail : ∀ x, x ≤ l.length → Pl.putS l n = (l.take x ++ (n :: l.drop x), true) → Is (AV.sl (x + 1 + (l.length - x)) 1 fun i j => joinC (x + 1) (fun i j => joinC x (cI l) (rowsCell [[i64 n]]) i j) (fun i j => i64 (l.getD (i + x) 0)) i j) (ints (Pl.putS l n).fst) ∧ (Pl.putS l n).snd = true := fun x hx he => by
    have h1 := ((Rds.take EncN.eI hx).join (Rds.row (ints_row n))).join (Rds.drop EncN.eI l x)
    rw [he]
    have e : l.take x ++ n :: l.drop x = l.take x ++ [n] ++ l.drop x := by simp
    rw [e]
    exact ⟨h1.is, rfl⟩
  refine ⟨⟨0, by simp, by simp, rfl⟩, fun k hk he => ⟨fun hlt => ?_, fun hge => ?_⟩⟩
  · rw [drop_get 0 hlt] at he
    simp only [Pl.putS] at he
    refine ⟨hlt, fun h1 => ⟨k + 1, hlt, ?_, by omega, by rw [wrap_small (by omega) (by omega)]; omega⟩, fun h1 => ⟨fun _ => ⟨hlt, fun h2 => ⟨hlt, ?_⟩, fun h2 => ?_⟩, fun h => by omega⟩⟩
    · rw [he, if_pos h1, Pl.take_succ_getD 0 hlt]; simp
    · rw [he, if_neg (by omega), if_pos h2]
      refine ⟨?_, by rw [beq_eq_decide]⟩
      rw [← drop_get 0 hlt, List.take_append_drop]
    · have he' : Pl.putS l n = (l.take k ++ (n :: l.drop k), true) := by rw [he, if_neg (by omega), if_neg h2, drop_get 0 hlt]
      obtain ⟨t1, t2⟩ := tail k hk he'
      exact ⟨hk, by omega, hk, by omega, by omega, by omega, t1, t2⟩
  · refine ⟨fun h => by omega, fun _ => ?_⟩
    rw [drop_end (by omega)] at he
    have he' : Pl.putS l n = (l.take k ++ (n :: l.drop k), true) := by rw [he, drop_end (by omega)]; rfl
    obtain ⟨t1, t2⟩ := tail k hk he'
    exact ⟨hk, by omega, hk, by omega, by omega, by omega, t1, t2⟩)

theorem k_sClauseOf : SoundC Try.prog K_sClauseOf.1 K_sClauseOf.2 := sound_of hm ((CtxOK.nil.and k_l10Put).and k_l10Abs) A_sClauseOf (by kernel_rfl) fun (l : List Int) hl => cast (vc_sClauseOf l) (by
  replace hl : l.length ≤ 1073741824 := hl
  simp [-List.getD_eq_getElem?_getD, and_assoc]
  have step : ∀ k, k < l.length → l.any Pl.badMark = (l.drop k).any Pl.badMark → l.any Pl.badMark = (Pl.badMark (l.getD k 0) || (l.drop (k + 1)).any Pl.badMark) := fun k hlt he => by
    rw [he, drop_get 0 hlt, List.any_cons]
  have bad : l.any Pl.badMark = true → (Pl.clauseOf l).1 = [] ∧ (Pl.clauseOf l).2 = false := fun h => by
    unfold Pl.clauseOf; rw [if_pos h]; exact ⟨rfl, rfl⟩
  refine ⟨⟨0, by simp, by simp, rfl⟩, fun k hk he => ⟨fun hlt => ⟨hlt, fun h1 => bad (by rw [step k hlt he]; unfold Pl.badMark; rw [h1]; rfl), fun h1 => ⟨hlt, fun h2 => bad (by rw [step k hlt he]; unfold Pl.badMark; rw [decide_eq_true h2]; simp), fun h2 => ⟨k + 1, hlt, ?_, by omega, by rw [wrap_small (by omega) (by omega)]; omega⟩⟩⟩, fun hge => ?_⟩⟩
  · rw [step k hlt he]
    unfold Pl.badMark
    rw [decide_eq_false h1, decide_eq_false (by omega)]
    rfl
  · rw [drop_end (by omega)] at he
    have hno : Pl.clauseOf l = Pl.clauseL l [] := by unfold Pl.clauseOf; rw [if_neg (by rw [he]; simp)]
    refine ⟨⟨0, by simp, [], by simpa using hno, by simp, rfl, rfl⟩, fun i out hi he' ho => ⟨fun hlt => ?_, fun hge' => ?_⟩⟩
    · rw [drop_get 0 hlt] at he'
      simp only [Pl.clauseL] at he'
      refine ⟨hlt, by omega, fun h1 => by rw [he', if_neg (by rw [h1]; simp)]; exact ⟨rfl, rfl⟩, fun h1 => ⟨i + 1, hlt, _, ?_, ?_, by omega, rfl, by rw [wrap_small (by omega) (by omega)]; omega⟩⟩
      · rw [he', if_pos h1]
      · have := Pl.putS_len out (l.getD i 0); omega
    · rw [he', drop_end (by omega)]; exact ⟨rfl, rfl⟩)

theorem k_wpNums : SoundC Try.prog K_wpNums.1 K_wpNums.2 := sound_of hm CtxOK.nil (fun (l, m) => A_wpNums l m) (by kernel_rfl) fun (l, m) hl => cast (vc_wpNums l m) (by
  replace hl : Sz l := hl
  simp [-List.getD_eq_getElem?_getD, and_assoc]
  refine ⟨fun h e => h (by rw [e]), fun h => ⟨⟨0, by simp; omega⟩, fun k hk hlm he => ⟨fun hlt => ⟨hlt, by omega, (eq_step 0 hlt hlm he).1, fun h => ⟨k + 1, hlt, hlm, (eq_step 0 hlt hlm he).2 h, by omega, wrap_succ hlt hl⟩⟩, fun hge => ?_⟩⟩⟩
  rw [drop_end (by omega), drop_end (l := m) (by omega)] at he
  exact he.2 rfl)

theorem k_l10Right : SoundC Try.prog K_l10Right.1 K_l10Right.2 := sound_of hm ((CtxOK.nil.and k_l10At).and k_l10Abs) (fun (l, m) => A_l10Right l m) (by kernel_rfl) fun (l, m) hl => cast (vc_l10Right l m) (by
  replace hl : Sz l := hl
  simp [-List.getD_eq_getElem?_getD, and_assoc]
  refine ⟨⟨0, by simp, by simp, rfl⟩, fun k hk he => ⟨fun hlt => ?_, fun hge => ?_⟩⟩
  · rw [drop_get 0 hlt] at he
    simp only [Pl.rightS] at he
    refine ⟨hlt, fun h1 => by rw [he]; simp [h1, -List.getD_eq_getElem?_getD], fun h1 => ⟨hlt, fun h2 => by rw [he]; simp [h2, -List.getD_eq_getElem?_getD], fun h2 => ⟨hk, hlt, l.take k, (ints_take hk).2 rfl, by simp; omega, fun h3 => by rw [he]; simp [h3, -List.getD_eq_getElem?_getD], fun h3 => ⟨k + 1, hlt, ?_, by omega, wrap_succ hlt hl⟩⟩⟩⟩
    rw [he, Pl.take_succ_getD 0 hlt]
    simp [h1, h3, Int.not_lt.2 h2, -List.getD_eq_getElem?_getD]
  · rw [he, drop_end (by omega)]; rfl)
end Cg
