/-
  The codes' contracts: trimmed logs. No condition.
-/
import Derived.Test.YtgobdkgdhmkegaaLtrVc
import Derived.Test.YtgobdkgdhmkegaaLtrLaw
import Derived.Test.YtgobdkgdhmkegaaLdrOk
set_option linter.unusedVariables false
set_option linter.unusedSimpArgs false
set_option maxRecDepth 100000
namespace Cg
open Go Go.Proofs

theorem lit2III {p q : AV} {x y : List (List Int)} (h1 : Is p (intss x)) (h2 : Is q (intss y)) : Is (.lit 2 1 (rowsCell [[p], [q]])) (intsss [x, y]) := Is_lit_of (e := eIII) (d := []) rfl fun i hi j hj => by
  match i, j, hi, hj with
  | 0, 0, _, _ => exact h1
  | 1, 0, _, _ => exact h2
theorem k_l11CopyZ : SoundC Try.prog K_l11CopyZ.1 K_l11CopyZ.2 := k_l11Copy.efz
theorem k_ownLogI : SoundC Try.prog K_ownLogI.1 K_ownLogI.2 := sound_of hm (CtxOK.nil.and k_Clone) (fun l => A_ownLogI l) (by kernel_rfl) fun (l : List (List Int)) hb => (by
  obtain ⟨h1, h2⟩ : l.length ≤ 1000 ∧ ∀ x ∈ l, x.length ≤ 1000 := hb
  rw [← vc_ownLogI l]
  simp [-List.getD_eq_getElem?_getD, -List.mem_cons, -Bool.forall_bool, -Bool.exists_bool, and_assoc, peta, tl_inj, ex_1, ex_2, ex_3, ex_4, ex_5, ex_6, ex_7, ex_8, ex_9, ey_2, ey_3, ey_4, ey_5, ey_6, ey_7, ey_8, ey_9]
  refine ⟨⟨0, by omega, rfl, rfl, .inl rfl⟩, fun x hx => ⟨fun hlt => ?_, fun hge => ⟨by omega, ?_⟩⟩⟩
  · have h3 := h2 _ (getD_mem [] hlt)
    refine ⟨hlt, by omega, by omega, by omega, by omega, by omega, wrap_succ hlt (by omega), ?_⟩
    rw [Pl.take_succ_getD [] hlt]
    have := intss_push (l := l.take x) (v := l.getD x [])
    rw [List.length_take, Nat.min_eq_left hx] at this
    exact this
  · have hx' : x = l.length := by omega
    subst hx'
    rw [List.take_length]
    exact (intss_take (Nat.le_refl _)).2 List.take_length)
theorem k_iLogTrim : SoundC Try.prog K_iLogTrim.1 K_iLogTrim.2 := sound_of hm ((((CtxOK.nil.and k_ConcatII).and k_ownLogI).and k_iLogEnds).and k_iLogOk) (fun (c, l) => A_iLogTrim c l) (by kernel_rfl) fun ((m, cs), l) hb => (by
  obtain ⟨⟨z1, z2⟩, z3, z4⟩ : SzC (m, cs) ∧ Sz l ∧ ∀ y ∈ l, SzH y := hb
  dsimp only at z1 z2
  rw [← vc_iLogTrim (m, cs) l]
  simp [-List.getD_eq_getElem?_getD, -List.mem_cons, -Bool.forall_bool, -Bool.exists_bool, and_assoc, peta, tl_inj, ex_1, ex_2, ex_3, ex_4, ex_5, ex_6, ex_7, ex_8, ex_9, ey_2, ey_3, ey_4, ey_5, ey_6, ey_7, ey_8, ey_9]
  have no1 : Pl.logOk (m, cs) l = false → (Pl.logTrim (m, cs) l).fst = [] ∧ (Pl.logTrim (m, cs) l).snd = false := fun h => by rw [Pl.logTrim_no (fun g => by rw [h] at g; cases g.1)]; exact ⟨rfl, rfl⟩
  have no2 : Pl.logEnds l = false → (Pl.logTrim (m, cs) l).fst = [] ∧ (Pl.logTrim (m, cs) l).snd = false := fun h => by rw [Pl.logTrim_no (fun g => by rw [h] at g; cases g.2)]; exact ⟨rfl, rfl⟩
  refine ⟨z1, z2, z3, z4, no1, fun hok => ⟨z3, no2, fun he => ?_⟩⟩
  have hi := Pl.TrimI.init hok he
  obtain ⟨g1, g2, g3, g4⟩ := id hi
  refine ⟨by omega, fun x hx => by have := g3 x hx; omega, ⟨_, hi, by rw [wrap_small (by omega) (by omega)]; omega⟩, fun a b h => ⟨fun ha => ?_, fun ha => ?_⟩⟩
  · obtain ⟨n, rfl⟩ : ∃ n, a = n + 1 := ⟨a - 1, by omega⟩
    obtain ⟨s1, s2, s3, s4⟩ := id h
    have hw : IntKind.i64.wrap ((n + 1 : Nat) : Int) = ((n + 1 : Nat) : Int) := wrap_small (by omega) (by omega)
    rw [hw, Int.toNat_natCast, Nat.add_sub_cancel]
    have e : [b.take n, b.drop (n + 1)].flatten = b.take n ++ b.drop (n + 1) := by simp
    have hin : ∀ y ∈ b.take n ++ b.drop (n + 1), y.length ≤ 60 := fun y hy => s3 y ((List.mem_append.1 hy).elim List.mem_of_mem_take List.mem_of_mem_drop)
    refine ⟨by omega, by omega, by omega, by omega, [b.take n, b.drop (n + 1)], ?_, by simp, fun y hy => ?_, z1, z2, by simp; omega, fun y x hx hy => ?_, fun ho => ?_, fun ho => ?_⟩
    · exact lit2III ((intss_take (by omega)).2 rfl) (intss_drop.2 rfl)
    · rcases List.mem_cons.1 hy with rfl | hy
      · simp; omega
      · rw [List.mem_singleton.1 hy]; simp; omega
    · have := hin y (by
        rcases List.mem_cons.1 hx with rfl | hx
        · exact List.mem_append_left _ hy
        · rw [List.mem_singleton.1 hx] at hy; exact List.mem_append_right _ hy)
      omega
    · rw [e] at ho ⊢
      exact ⟨n, h.some ho, by omega, by rw [wrap_small (by omega) (by omega)]; omega⟩
    · rw [e] at ho
      exact ⟨n, h.none ho, by omega, by rw [wrap_small (by omega) (by omega)]; omega⟩
  · obtain rfl : a = 0 := by omega
    rw [h.stop hok he]
    exact ⟨rfl, rfl⟩)
theorem k_sLogTrim : SoundC Try.prog K_sLogTrim.1 K_sLogTrim.2 := sound_of hm (((CtxOK.nil.and k_l11CopyZ).and k_sLogEnds).and k_sLogOk) (fun (c, l) => A_sLogTrim c l) (by kernel_rfl) fun ((m, cs), l) hb => (by
  obtain ⟨⟨z1, z2⟩, z3, z4⟩ : SzC (m, cs) ∧ Sz l ∧ ∀ y ∈ l, SzH y := hb
  dsimp only at z1 z2
  rw [← vc_sLogTrim (m, cs) l]
  simp [-List.getD_eq_getElem?_getD, -List.mem_cons, -Bool.forall_bool, -Bool.exists_bool, and_assoc, peta, tl_inj, ex_1, ex_2, ex_3, ex_4, ex_5, ex_6, ex_7, ex_8, ex_9, ey_2, ey_3, ey_4, ey_5, ey_6, ey_7, ey_8, ey_9]
  have no1 : Pl.logOk (m, cs) l = false → (Pl.logTrim (m, cs) l).fst = [] ∧ (Pl.logTrim (m, cs) l).snd = false := fun h => by rw [Pl.logTrim_no (fun g => by rw [h] at g; cases g.1)]; exact ⟨rfl, rfl⟩
  have no2 : Pl.logEnds l = false → (Pl.logTrim (m, cs) l).fst = [] ∧ (Pl.logTrim (m, cs) l).snd = false := fun h => by rw [Pl.logTrim_no (fun g => by rw [h] at g; cases g.2)]; exact ⟨rfl, rfl⟩
  refine ⟨z1, z2, z3, z4, no1, fun hok => ⟨z3, no2, fun he => ?_⟩⟩
  have hi := Pl.TrimI.init hok he
  obtain ⟨g1, g2, g3, g4⟩ := id hi
  refine ⟨by omega, ⟨_, l, hi, rfl, by rw [wrap_small (by omega) (by omega)]; omega, intss_join0'⟩, fun a b h => ⟨fun ha => ?_, fun ha => ?_⟩⟩
  · obtain ⟨n, rfl⟩ : ∃ n, a = n + 1 := ⟨a - 1, by omega⟩
    obtain ⟨s1, s2, s3, s4⟩ := id h
    have hw : IntKind.i64.wrap ((n + 1 : Nat) : Int) = ((n + 1 : Nat) : Int) := wrap_small (by omega) (by omega)
    rw [hw, Int.toNat_natCast, Nat.add_sub_cancel]
    have hin : ∀ y ∈ b.take n ++ b.drop (n + 1), y.length ≤ 60 := fun y hy => s3 y ((List.mem_append.1 hy).elim List.mem_of_mem_take List.mem_of_mem_drop)
    have hR := (Rds.take (d := []) EncN.eII (l := b) (x := n) (by omega)).join (Rds.drop EncN.eII b (n + 1))
    have hl : n + (b.length - (n + 1)) = (b.take n ++ b.drop (n + 1)).length := by simp; omega
    have hw2 : IntKind.i64.wrap (((n + 1 : Nat) : Int) - 1 - 1) = (n : Int) - 1 := by rw [wrap_small (by omega) (by omega)]; omega
    and_intros
    all_goals first
      | omega
      | exact ⟨b.take n ++ b.drop (n + 1), hR.is, z1, z2, by simp; omega, fun y hy => by (have := hin y hy; omega), fun ho => ⟨n, _, h.some ho, by omega, hl, hw2, hR.iso⟩, fun ho => ⟨n, b, h.none ho, by omega, rfl, hw2, .inr rfl⟩⟩
  · obtain rfl : a = 0 := by omega
    obtain ⟨s1, s2, s3, s4⟩ := id h
    rw [h.stop hok he]
    exact ⟨by omega, fun x hx => by have := s3 x hx; omega, rfl, rfl⟩)
theorem k_yLogTrim : SoundC Try.prog K_yLogTrim.1 K_yLogTrim.2 := sound_of hm ((((((CtxOK.nil.and k_iLogEnds).and k_iLogOk).and k_wpLog).and k_sLogTrim).and k_iLogTrim).and k_DrawLogTrim) (fun _ => []) (by kernel_rfl) fun (b : List Int) hb => (by
  replace hb : Byt b := hb
  rw [← vc_yLogTrim b]
  simp [-List.getD_eq_getElem?_getD, -List.mem_cons, -Bool.forall_bool, -Bool.exists_bool, and_assoc, peta, tl_inj, ex_1, ex_2, ex_3, ex_4, ex_5, ex_6, ex_7, ex_8, ex_9, ey_2, ey_3, ey_4, ey_5, ey_6, ey_7, ey_8, ey_9]
  refine fun l1 => ⟨by omega, hb, fun a cl log hg => ?_⟩
  obtain ⟨z1, z2, z3, z4⟩ := hg.sz
  have hs := Pl.logTrim_sz (c := (a, cl)) (log := log)
  have s1 : (Pl.logTrim (a, cl) log).fst.length ≤ 4294967296 := by have := hs.1; omega
  have s2 : ∀ y ∈ (Pl.logTrim (a, cl) log).fst, y.length ≤ 4294967296 := fun y hy => by have := hs.2 y hy; omega
  have s3 : ∀ y ∈ (Pl.logTrim (a, cl) log).fst, y.length ≤ 2147483648 := fun y hy => by have := hs.2 y hy; omega
  refine ⟨z1, z2, z3, z4, z1, z2, z3, z4, s1, s2, fun _ => ⟨s1, s2⟩, fun h => ?_⟩
  obtain ⟨o1, o2, o3, o4⟩ := Pl.logTrim_ok h
  exact ⟨z1, z2, s1, s3, fun _ => ⟨s1, fun _ => ⟨fun _ => by omega, o3⟩, o2⟩, o1⟩)
end Cg
