/-
  The codes' contracts: searches. No condition.
-/
import Derived.Test.YtgobdkgdhmkegaaHuntVc
import Derived.Test.YtgobdkgdhmkegaaHuntLaw
import Derived.Test.YtgobdkgdhmkegaaSrtOk
set_option linter.unusedVariables false
set_option linter.unusedSimpArgs false
set_option maxRecDepth 100000
namespace Pl
open Go Cg
theorem hunt_bad {c : Cnf} {ds : List Int} (hc : cnfOk c = true) (h : Rgt c ds) (hb : (unitsS c.2 ds).2 = true) : hunt c ds = (1, [note ds], [], false) := by
  rw [hunt_step hc h, if_pos hb]
theorem hunt_all {c : Cnf} {ds : List Int} (hc : cnfOk c = true) (h : Rgt c ds) (hb : (unitsS c.2 ds).2 = false) (hn : next c ds = 0) : hunt c ds = (1, [], valsL (unitsS c.2 ds).1 (marks c.1), true) := by
  rw [hunt_step hc h, if_neg (by rw [hb]; simp), if_pos hn]
theorem hunt_one {c : Cnf} {ds : List Int} (hc : cnfOk c = true) (h : Rgt c ds) (hb : (unitsS c.2 ds).2 = false) (hn : next c ds ≠ 0) (h1 : (one c ds).2.2.2 = true) : hunt c ds = (1 + (one c ds).1, (one c ds).2.1, (one c ds).2.2.1, true) := by
  rw [hunt_step hc h, if_neg (by rw [hb]; simp), if_neg hn]
  show both ds (one c ds) (two c ds) = _
  unfold both
  rw [if_pos h1]
theorem hunt_two {c : Cnf} {ds : List Int} (hc : cnfOk c = true) (h : Rgt c ds) (hb : (unitsS c.2 ds).2 = false) (hn : next c ds ≠ 0) (h1 : (one c ds).2.2.2 = false) (h2 : (two c ds).2.2.2 = true) : hunt c ds = (1 + (one c ds).1 + (two c ds).1, (one c ds).2.1 ++ (two c ds).2.1, (two c ds).2.2.1, true) := by
  rw [hunt_step hc h, if_neg (by rw [hb]; simp), if_neg hn]
  show both ds (one c ds) (two c ds) = _
  unfold both
  rw [if_neg (by rw [h1]; simp), if_pos h2]
theorem hunt_none {c : Cnf} {ds : List Int} (hc : cnfOk c = true) (h : Rgt c ds) (hb : (unitsS c.2 ds).2 = false) (hn : next c ds ≠ 0) (h1 : (one c ds).2.2.2 = false) (h2 : (two c ds).2.2.2 = false) : hunt c ds = (1 + (one c ds).1 + (two c ds).1, (one c ds).2.1 ++ (two c ds).2.1 ++ [note ds], [], false) := by
  rw [hunt_step hc h, if_neg (by rw [hb]; simp), if_neg hn]
  show both ds (one c ds) (two c ds) = _
  unfold both
  rw [if_neg (by rw [h1]; simp), if_neg (by rw [h2]; simp)]
theorem hunt_cases {c : Cnf} {ds : List Int} (hc : cnfOk c = true) (h : Rgt c ds) (hb : (unitsS c.2 ds).2 = false) (hn : next c ds ≠ 0) :
    ((one c ds).2.2.2 = true ∧ hunt c ds = (1 + (one c ds).1, (one c ds).2.1, (one c ds).2.2.1, true)) ∨
    ((one c ds).2.2.2 = false ∧ (two c ds).2.2.2 = true ∧ hunt c ds = (1 + (one c ds).1 + (two c ds).1, (one c ds).2.1 ++ (two c ds).2.1, (two c ds).2.2.1, true)) ∨
    ((one c ds).2.2.2 = false ∧ (two c ds).2.2.2 = false ∧ hunt c ds = (1 + (one c ds).1 + (two c ds).1, (one c ds).2.1 ++ (two c ds).2.1 ++ [note ds], [], false)) := by
  cases h1 : (one c ds).2.2.2 with
  | true => exact .inl ⟨rfl, hunt_one hc h hb hn h1⟩
  | false =>
    cases h2 : (two c ds).2.2.2 with
    | true => exact .inr (.inl ⟨rfl, rfl, hunt_two hc h hb hn h1 h2⟩)
    | false => exact .inr (.inr ⟨rfl, rfl, hunt_none hc h hb hn h1 h2⟩)
theorem choice (m : Int) (h1 : 1 ≤ m) (h2 : m ≤ 60) : IntKind.i64.wrap (m * IntKind.i64.wrap (IntKind.i64.wrap (2 * ((0 : Nat) : Int)) - 1)) = -m ∧ IntKind.i64.wrap (m * IntKind.i64.wrap (IntKind.i64.wrap (2 * ((1 : Nat) : Int)) - 1)) = m := by
  have e0 : IntKind.i64.wrap (IntKind.i64.wrap (2 * ((0 : Nat) : Int)) - 1) = -1 := by decide
  have e1 : IntKind.i64.wrap (IntKind.i64.wrap (2 * ((1 : Nat) : Int)) - 1) = 1 := by decide
  rw [e0, e1, Cg.wrap_small (by omega) (by omega), Cg.wrap_small (by omega) (by omega)]
  exact ⟨by omega, by omega⟩
theorem walk_le {c : Cnf} {most : Int} {ds : List Int} (h : ((hunt c ds).1 : Int) ≤ most) : walk c most ds = (((hunt c ds).1 : Int), (hunt c ds).2.2.2) := if_pos h
theorem walk_gt {c : Cnf} {most : Int} {ds : List Int} (h : most < (hunt c ds).1) : walk c most ds = (most, false) := if_neg (by omega)
theorem marks_len (many : Int) : (marks many).length = many.toNat := by unfold marks; simp
theorem marks_drop {many : Int} {k : Nat} (h : (k : Int) < many) : (marks many).drop k = ((k : Int) + 1) :: (marks many).drop (k + 1) := by
  rw [Cg.drop_get 0 (by rw [marks_len]; omega)]
  congr 1
  unfold marks
  simp [show k < many.toNat by omega]
theorem marks_end {many : Int} {k : Nat} (h : many ≤ k) : (marks many).drop k = [] := List.drop_eq_nil_of_le (by rw [marks_len]; omega)
theorem units_len (l : List (List Int)) (put : List Int) : (unitsS l put).1.length ≤ put.length + 61 := unitsF_len _ _ _ _
theorem full_log (c : Cnf) (k : Nat) (ds : List Int) : (full c k ds).2.1.length ≤ (full c k ds).1 := (full_cost c k ds).2
theorem nots_len' (ds : List Int) : (nots ds).length = ds.length := by unfold nots; simp
theorem valsL_cons {put : List Int} {many : Int} {j : Nat} (h : (j : Int) + 1 ≤ many) : valsL put ((marks many).drop j) = decide (at_ ((j : Int) + 1) put = 1) :: valsL put ((marks many).drop (j + 1)) := by
  rw [marks_drop (by omega)]; rfl
theorem freeL_cons {put : List Int} {many : Int} {j : Nat} (h : (j : Int) + 1 ≤ many) : freeL put ((marks many).drop j) = if at_ ((j : Int) + 1) put = 0 then (j : Int) + 1 else freeL put ((marks many).drop (j + 1)) := by
  rw [marks_drop (by omega)]; rfl
theorem rep_set (j : Nat) (l : List Bool) : (List.replicate (j + 1) false ++ l).set j true = List.replicate j false ++ true :: l := by
  rw [List.replicate_succ', List.append_assoc, List.set_append_right _ _ (by simp)]; simp
theorem rep_cons (j : Nat) (l : List Bool) : List.replicate (j + 1) false ++ l = List.replicate j false ++ false :: l := by
  rw [List.replicate_succ', List.append_assoc]; rfl
theorem down_in {put : List Int} {many : Int} {j : Nat} (hp : Cons put) (hk : (j : Int) + 1 ≤ many) (hm : many ≤ 60) (h : (j : Int) + 1 ∈ put) :
    freeL put ((marks many).drop (j + 1)) = freeL put ((marks many).drop j) ∧ (List.replicate (j + 1) false ++ valsL put ((marks many).drop (j + 1))).set j true = List.replicate j false ++ valsL put ((marks many).drop j) := by
  have hk' : Mk ((j : Int) + 1) := ⟨by omega, by omega, by omega⟩
  have e := at_pos (fun e => by rw [hk'.wneg] at e; exact (hp _ h).2.2.2 e) h
  rw [freeL_cons hk, valsL_cons hk, rep_set, e, if_neg (by decide)]
  exact ⟨rfl, rfl⟩
theorem down_neg {put : List Int} {many : Int} {j : Nat} (hk : (j : Int) + 1 ≤ many) (hm : many ≤ 60) (h : ¬ (j : Int) + 1 ∈ put) (h' : -((j : Int) + 1) ∈ put) :
    freeL put ((marks many).drop (j + 1)) = freeL put ((marks many).drop j) ∧ List.replicate (j + 1) false ++ valsL put ((marks many).drop (j + 1)) = List.replicate j false ++ valsL put ((marks many).drop j) := by
  have hk' : Mk ((j : Int) + 1) := ⟨by omega, by omega, by omega⟩
  have e := at_neg h (by rw [hk'.wneg]; exact h')
  rw [freeL_cons hk, valsL_cons hk, rep_cons, e, if_neg (by decide)]
  exact ⟨rfl, rfl⟩
theorem down_no {put : List Int} {many : Int} {j : Nat} (hk : (j : Int) + 1 ≤ many) (hm : many ≤ 60) (h : ¬ (j : Int) + 1 ∈ put) (h' : ¬ -((j : Int) + 1) ∈ put) :
    (j : Int) + 1 = freeL put ((marks many).drop j) ∧ List.replicate (j + 1) false ++ valsL put ((marks many).drop (j + 1)) = List.replicate j false ++ valsL put ((marks many).drop j) := by
  have hk' : Mk ((j : Int) + 1) := ⟨by omega, by omega, by omega⟩
  have e := at_of_not h (by rw [hk'.wneg]; exact h')
  rw [freeL_cons hk, valsL_cons hk, rep_cons, e, if_pos rfl]
  exact ⟨rfl, rfl⟩
theorem acc_len (c : Cnf) (ds : List Int) (i : Nat) (h : i ≤ 2) : ((accL c ds i).length : Int) ≤ accC c ds i ∧ 1 ≤ accC c ds i := by
  have c1 : ((one c ds).2.1.length : Int) ≤ (one c ds).1 := by exact_mod_cast (hunt_cost c (ds ++ [-next c ds])).2
  have c2 : ((two c ds).2.1.length : Int) ≤ (two c ds).1 := by exact_mod_cast (hunt_cost c (ds ++ [next c ds])).2
  have e1 : accC c ds 1 = 1 + ((one c ds).1 : Int) := rfl
  have e2 : accC c ds 2 = 1 + ((one c ds).1 : Int) + ((two c ds).1 : Int) := rfl
  rcases (by omega : i = 0 ∨ i = 1 ∨ i = 2) with rfl | rfl | rfl
  · exact ⟨by simp [accL, accC], by simp [accC]⟩
  · rw [e1]; exact ⟨by simp only [accL]; omega, by omega⟩
  · rw [e2]; exact ⟨by simp only [accL, List.length_append]; push_cast; omega, by omega⟩
theorem huntP_up {c : Cnf} {ds : List Int} (hc : cnfOk c = true) (h : Rgt c ds) (hb : (unitsS c.2 ds).2 = false) (hn : next c ds ≠ 0) {f f' : Int} {log log' : List (List Int)} {i : Nat} {y : HY} {ds' : List Int}
    (hI : HuntI c ds f log i f' log') (hi : i = 0 ∧ ds' = ds ++ [-next c ds] ∨ i = 1 ∧ ds' = ds ++ [next c ds]) (hP : HuntP c ds' f' log' y) :
    (y.2.2.2.2 = true ∨ y.2.2.1 = true → HuntP c ds f log y) ∧ (y.2.2.2.2 = false → y.2.2.1 = false → HuntI c ds f log (i + 1) y.1 y.2.1) := by
  have hcs := hunt_cases hc h hb hn
  have e0 : accC c ds 0 = 1 := rfl
  have e1 : accC c ds 1 = 1 + ((one c ds).1 : Int) := rfl
  have e2 : accC c ds 2 = 1 + ((one c ds).1 : Int) + ((two c ds).1 : Int) := rfl
  obtain ⟨_, hacc, rfl, rfl, hi1, hi2⟩ := hI
  rcases hi with ⟨rfl, rfl⟩ | ⟨rfl, rfl⟩
  · change ((((one c ds).1 : Int) ≤ f - accC c ds 0 → y = (f - accC c ds 0 - ((one c ds).1 : Int), (log ++ accL c ds 0) ++ (one c ds).2.1, false, (one c ds).2.2.1, (one c ds).2.2.2)) ∧ _) at hP
    by_cases hle : ((one c ds).1 : Int) ≤ f - accC c ds 0
    · rw [hP.1 hle]
      refine ⟨fun h1 => ?_, fun h1 _ => ⟨by omega, by rw [e1]; omega, by rw [e1, e0]; show f - 1 - _ = _; omega, by simp [accL], fun _ => h1, fun h => absurd h (by omega)⟩⟩
      have h2 : (one c ds).2.2.2 = true := h1.elim id fun e => (by cases e)
      have e := hunt_one hc h hb hn h2
      refine ⟨fun _ => ?_, fun hlt => absurd hlt (by rw [e]; push_cast; omega)⟩
      rw [e, h2]
      refine Prod.ext ?_ (Prod.ext (by simp [accL]) rfl)
      show f - accC c ds 0 - ((one c ds).1 : Int) = f - ((1 + (one c ds).1 : Nat) : Int)
      push_cast; omega
    · obtain ⟨h1, h2, h3⟩ := hP.2 (by change f - accC c ds 0 < ((one c ds).1 : Int); omega)
      refine ⟨fun _ => ⟨fun hle' => absurd hle' ?_, fun _ => ⟨h1, h2, h3⟩⟩, fun _ e => (by rw [h1] at e; cases e)⟩
      rcases hcs with ⟨_, e⟩ | ⟨_, _, e⟩ | ⟨_, _, e⟩ <;> rw [e] <;> push_cast <;> omega
  · have g1 := hi1 (by omega)
    change ((((two c ds).1 : Int) ≤ f - accC c ds 1 → y = (f - accC c ds 1 - ((two c ds).1 : Int), (log ++ accL c ds 1) ++ (two c ds).2.1, false, (two c ds).2.2.1, (two c ds).2.2.2)) ∧ _) at hP
    by_cases hle : ((two c ds).1 : Int) ≤ f - accC c ds 1
    · rw [hP.1 hle]
      refine ⟨fun h1 => ?_, fun h1 _ => ⟨by omega, by rw [e2]; omega, by rw [e1, e2]; show f - _ - _ = _; omega, by simp [accL], fun _ => g1, fun _ => h1⟩⟩
      have h2 : (two c ds).2.2.2 = true := h1.elim id fun e => (by cases e)
      have e := hunt_two hc h hb hn g1 h2
      refine ⟨fun _ => ?_, fun hlt => absurd hlt (by rw [e]; push_cast; omega)⟩
      rw [e, h2]
      refine Prod.ext ?_ (Prod.ext (by simp [accL]) rfl)
      show f - accC c ds 1 - ((two c ds).1 : Int) = f - ((1 + (one c ds).1 + (two c ds).1 : Nat) : Int)
      push_cast; omega
    · obtain ⟨h1, h2, h3⟩ := hP.2 (by change f - accC c ds 1 < ((two c ds).1 : Int); omega)
      refine ⟨fun _ => ⟨fun hle' => absurd hle' ?_, fun _ => ⟨h1, h2, h3⟩⟩, fun _ e => (by rw [h1] at e; cases e)⟩
      rcases hcs with ⟨g, _⟩ | ⟨_, _, e⟩ | ⟨_, _, e⟩
      · rw [g1] at g; cases g
      · rw [e]; push_cast; omega
      · rw [e]; push_cast; omega
end Pl
namespace Cg
open Go Go.Proofs
/-- What is left to show of a code, not to be opened by chance. -/
structure GoalW (P : Program) (Γ : Ctx) (an : List Ann) (f : FuncId) (c : Contract) (x : c.X) : Prop where
  get : Goal P Γ an f c x
theorem GoalW.of {P : Program} {Γ : Ctx} {an : List Ann} {f : FuncId} {c : Contract} {x : c.X} {p : Prop} (e : p = Goal P Γ an f c x) (h : p) : GoalW P Γ an f c x := ⟨e ▸ h⟩
theorem sound_ofW {P : Program} (hm : P.follows Departure.mixedOrders = true) {Γ : Ctx} (hΓ : CtxOK P Γ) {f : FuncId} {c : Contract} (an : c.X → List Ann) (hf : callableB P f = true)
    (h : ∀ x, c.pre x → GoalW P Γ (an x) f c x) : SoundC P f c := sound_of hm hΓ an hf fun x hx => (h x hx).get
theorem pin_row (v : Int) : IsR 1 eII [] (rowsCell [[AV.lit 1 1 (rowsCell [[i64 v]])]]) [[v]] := IsR_row EncN.eII (fun j hj => by match j, hj with
    | 0, _ => exact ints_lit1.2 rfl)
theorem k_l11Free : SoundC Try.prog K_l11Free.1 K_l11Free.2 := sound_of hm (CtxOK.nil.and k_l10At) (fun (c, put) => A_l11Free c put) (by kernel_rfl) fun (c, put) hl => (by
  obtain ⟨hc, hp⟩ : Pl.cnfOk c = true ∧ Sz put := hl
  have hm := Pl.cnfOk_many hc
  rw [← vc_l11Free c put]
  simp [-List.getD_eq_getElem?_getD, -List.mem_cons, -Bool.forall_bool, -Bool.exists_bool, and_assoc, peta, tl_inj, ex_1, ex_2, ex_3, ex_4, ex_5, ex_6, ex_7, ex_8, ex_9, ey_2, ey_3, ey_4, ey_5, ey_6, ey_7, ey_8, ey_9]
  refine ⟨⟨0, by omega, by simp, by omega⟩, fun k hk he => ⟨fun hlt => ⟨hp, fun h0 => ?_, fun h0 => ⟨k + 1, by omega, ?_, by omega, Cg.wrap_small (by omega) (by omega)⟩⟩, fun hge => ?_⟩⟩
  · rw [he, Pl.marks_drop (by omega)]; unfold Pl.freeL; rw [if_pos (by exact_mod_cast h0)]
  · rw [he, Pl.marks_drop (by omega)]; conv => lhs; unfold Pl.freeL
    rw [if_neg (by exact_mod_cast h0)]
  · rw [he, Pl.marks_end (by omega)]; rfl)
theorem k_l11Vals : SoundC Try.prog K_l11Vals.1 K_l11Vals.2 := sound_of hm (CtxOK.nil.and k_l10At) (fun (c, put) => A_l11Vals c put) (by kernel_rfl) fun (c, put) hl => (by
  obtain ⟨hc, hp⟩ : Pl.cnfOk c = true ∧ Sz put := hl
  have hm := Pl.cnfOk_many hc
  rw [← vc_l11Vals c put]
  simp [-List.getD_eq_getElem?_getD, -List.mem_cons, -Bool.forall_bool, -Bool.exists_bool, and_assoc, peta, tl_inj, ex_1, ex_2, ex_3, ex_4, ex_5, ex_6, ex_7, ex_8, ex_9, ey_2, ey_3, ey_4, ey_5, ey_6, ey_7, ey_8, ey_9]
  refine ⟨⟨0, by omega, [], rfl, by simp, rfl, by omega, rfl⟩, fun k out hk hl he => ⟨fun hlt => ⟨hp, by omega, k + 1, by omega, out ++ [decide (Pl.at_ ((k : Int) + 1) put = 1)], by simp [hl], ?_, by omega, by simp, Cg.wrap_small (by omega) (by omega), ?_⟩, fun hge => ?_⟩⟩
  · rw [he, Pl.marks_drop (by omega)]; unfold Pl.valsL; simp
  · have e : (Pl.at_ ((k : Int) + 1) put == 1) = decide (Pl.at_ ((k : Int) + 1) put = 1) := beq_eq_decide ..
    rw [e]; exact bools_push
  · rw [he, Pl.marks_end (by omega)]; simp [Pl.valsL])
theorem k_l11Note : SoundC Try.prog K_l11Note.1 K_l11Note.2 := sound_of hm ((CtxOK.nil.and k_sClauseOf).and k_l10Nots) (fun _ => []) (by kernel_rfl) fun (f, log, ds) hl => (by
  obtain ⟨h1, h2⟩ : log.length ≤ 1000 ∧ ds.length ≤ 1000 := hl
  rw [← vc_l11Note f log ds]
  simp [-List.getD_eq_getElem?_getD, -List.mem_cons, -Bool.forall_bool, -Bool.exists_bool, and_assoc, peta, tl_inj, ex_1, ex_2, ex_3, ex_4, ex_5, ex_6, ex_7, ex_8, ex_9, ey_2, ey_3, ey_4, ey_5, ey_6, ey_7, ey_8, ey_9]
  have hn : (Pl.nots ds).length = ds.length := by unfold Pl.nots; simp
  exact ⟨by omega, by omega, by omega, by omega, ((Rds.cel EncN.eII log).join (Rds.row (intss_row _))).is⟩)
theorem k_l11Find0 (n : Nat) : SoundC Try.prog (K_l11Find n).1 (K_l11Find n).2 := by
  induction n with
  | zero => exact sound_of hm CtxOK.nil (fun _ => []) (by kernel_rfl) fun x hx => absurd hx.2 (Nat.not_lt_zero _)
  | succ n ih =>
    have ih' := CtxOK.nil.and (K := K_l11Find n) ih
    exact sound_of hm ((((ih'.and k_l11Vals).and k_l11Free).and k_l11Note).and k_l10Units) (fun x => A_l11Find x.1 x.2.1 x.2.2.1 x.2.2.2) (by kernel_rfl) fun (x : FX) hl => (by
      have hl1 := hl.1
      have hl2 := hl.2
      clear hl
      rw [← vc_l11Find n x]
      obtain ⟨c, f, log, ds⟩ := x
      obtain ⟨⟨hc, hz, hr⟩, hcost, hf, hlog⟩ : HOk c ds ∧ (Pl.hunt c ds).1 ≤ f ∧ f ≤ 130 ∧ log.length + f ≤ 1000 := hl1
      replace hl2 : 61 - ds.length < n + 1 := hl2
      dsimp only
      simp [-List.getD_eq_getElem?_getD, -List.mem_cons, -Bool.forall_bool, -Bool.exists_bool, and_assoc, peta, tl_inj, ex_1, ex_2, ex_3, ex_4, ex_5, ex_6, ex_7, ex_8, ex_9, ey_2, ey_3, ey_4, ey_5, ey_6, ey_7, ey_8, ey_9]
      have hds := Pl.rgt_len hc hr
      have hul := Pl.units_len c.2 ds
      have hc1 := (Pl.hunt_cost c ds).1
      refine ⟨fun h => by omega, fun h1 => ⟨hc, hz.1, hz.2, by omega, fun hb => ?_, fun hb => ⟨hc, by omega, fun hn => ⟨hc, by omega, ?_⟩, fun hn => ⟨⟨0, ?_, rfl, rfl⟩, fun i f' log' hI => ⟨fun hlt => ?_, fun hge => ?_⟩⟩⟩⟩⟩
      · rw [Pl.hunt_bad hc hr hb]
        exact ⟨by omega, by omega, Cg.wrap_small (by omega) (by omega), rfl, rfl, rfl⟩
      · rw [Pl.hunt_all hc hr hb hn]
        exact ⟨Cg.wrap_small (by omega) (by omega), rfl, rfl, rfl⟩
      · exact ⟨by omega, h1, Cg.wrap_small (by omega) (by omega), by simp [Pl.accL], fun h => absurd h (by omega), fun h => absurd h (by omega)⟩
      · obtain ⟨n1, n2, r1, r2⟩ := Pl.next_right hc hr hn
        have hm := Pl.cnfOk_many hc
        obtain ⟨w1, w2⟩ := Pl.choice (Pl.next c ds) n1 (by omega)
        have hcs := Pl.hunt_cases hc hr hb hn
        have c1 := (Pl.hunt_cost c (ds ++ [-Pl.next c ds]))
        have c2 := (Pl.hunt_cost c (ds ++ [Pl.next c ds]))
        obtain ⟨_, hacc, rfl, rfl, hi1, hi2⟩ := hI
        refine ⟨by omega, by omega, ?_⟩
        rcases (by omega : i = 0 ∨ i = 1) with rfl | rfl
        · rw [w1]
          have e0 : Pl.accC c ds 0 = 1 := rfl
          have e1 : Pl.accC c ds 1 = 1 + ((Pl.one c ds).1 : Int) := rfl
          have hle : 1 + ((Pl.one c ds).1 : Int) ≤ (Pl.hunt c ds).1 := by
            rcases hcs with ⟨_, e⟩ | ⟨_, _, e⟩ | ⟨_, _, e⟩ <;> rw [e] <;> push_cast <;> omega
          refine ⟨ds ++ [-Pl.next c ds], ((Rds.cel EncN.eI ds).join (Rds.row (ints_row _))).is, hc, hz.1, hz.2, r1, ?_, by omega, ?_, by simp; omega, fun hf1 => ?_, fun hf1 => ⟨fun hbad => ?_, fun _ => ⟨1, ?_, by omega, rfl⟩⟩⟩
          · show ((Pl.one c ds).1 : Int) ≤ _; omega
          · simp only [Pl.accL, List.append_nil]; omega
          · rcases hcs with ⟨_, e⟩ | ⟨g, _⟩ | ⟨g, _⟩
            · rw [e]
              refine ⟨?_, ?_, rfl, hf1⟩
              · show f - Pl.accC c ds 0 - ((Pl.one c ds).1 : Int) = f - ((1 + (Pl.one c ds).1 : Nat) : Int)
                push_cast; omega
              · simp only [Pl.accL, List.append_nil]; rfl
            · exact absurd hf1 (by rw [show (Pl.hunt c (ds ++ [-Pl.next c ds])).2.2.2 = false from g]; simp)
            · exact absurd hf1 (by rw [show (Pl.hunt c (ds ++ [-Pl.next c ds])).2.2.2 = false from g]; simp)
          · exfalso; change f - Pl.accC c ds 0 - ((Pl.one c ds).1 : Int) < 0 at hbad; omega
          · exact ⟨by omega, by rw [e1]; omega, by rw [e0, e1]; show f - 1 - ((Pl.one c ds).1 : Int) = _; omega, by simp only [Pl.accL, List.append_nil]; rfl, fun _ => hf1, fun h => absurd h (by omega)⟩
        · rw [w2]
          have g1 := hi1 (by omega)
          have e1 : Pl.accC c ds 1 = 1 + ((Pl.one c ds).1 : Int) := rfl
          have e2 : Pl.accC c ds 2 = 1 + ((Pl.one c ds).1 : Int) + ((Pl.two c ds).1 : Int) := rfl
          have hle : 1 + ((Pl.one c ds).1 : Int) + ((Pl.two c ds).1 : Int) ≤ (Pl.hunt c ds).1 := by
            rcases hcs with ⟨g, e⟩ | ⟨_, _, e⟩ | ⟨_, _, e⟩
            · rw [g1] at g; cases g
            · rw [e]; push_cast; omega
            · rw [e]; push_cast; omega
          have hlo : ((Pl.one c ds).2.1.length : Int) ≤ (Pl.one c ds).1 := by exact_mod_cast c1.2
          refine ⟨ds ++ [Pl.next c ds], ((Rds.cel EncN.eI ds).join (Rds.row (ints_row _))).is, hc, hz.1, hz.2, r2, ?_, by omega, ?_, by simp; omega, fun hf1 => ?_, fun hf1 => ⟨fun hbad => ?_, fun _ => ⟨2, ?_, by omega, rfl⟩⟩⟩
          · show ((Pl.two c ds).1 : Int) ≤ _; omega
          · simp only [Pl.accL, List.length_append]; push_cast; omega
          · rcases hcs with ⟨g, _⟩ | ⟨_, _, e⟩ | ⟨_, g, _⟩
            · rw [g1] at g; cases g
            · rw [e]
              refine ⟨?_, ?_, rfl, hf1⟩
              · show f - Pl.accC c ds 1 - ((Pl.two c ds).1 : Int) = f - ((1 + (Pl.one c ds).1 + (Pl.two c ds).1 : Nat) : Int)
                push_cast; omega
              · simp only [Pl.accL, List.append_assoc]; rfl
            · exact absurd hf1 (by rw [show (Pl.hunt c (ds ++ [Pl.next c ds])).2.2.2 = false from g]; simp)
          · exfalso; change f - Pl.accC c ds 1 - ((Pl.two c ds).1 : Int) < 0 at hbad; omega
          · exact ⟨by omega, by rw [e2]; omega, by rw [e1, e2]; show f - _ - ((Pl.two c ds).1 : Int) = _; omega, by simp only [Pl.accL, List.append_assoc]; rfl, fun _ => g1, fun _ => hf1⟩
      · obtain ⟨hi, hacc, rfl, rfl, hi1, hi2⟩ := hI
        have : i = 2 := by omega
        subst this
        have e2 : Pl.accC c ds 2 = 1 + ((Pl.one c ds).1 : Int) + ((Pl.two c ds).1 : Int) := rfl
        have c1 := (Pl.hunt_cost c (ds ++ [-Pl.next c ds])).2
        have c2 := (Pl.hunt_cost c (ds ++ [Pl.next c ds])).2
        have hlo : ((Pl.one c ds).2.1.length : Int) ≤ (Pl.one c ds).1 := by exact_mod_cast c1
        have hlt : ((Pl.two c ds).2.1.length : Int) ≤ (Pl.two c ds).1 := by exact_mod_cast c2
        rw [Pl.hunt_none hc hr hb hn (hi1 (by omega)) (hi2 (by omega))]
        refine ⟨by simp only [Pl.accL, List.length_append]; omega, by omega, ?_, ?_, rfl, rfl⟩
        · show f - Pl.accC c ds 2 = f - ((1 + (Pl.one c ds).1 + (Pl.two c ds).1 : Nat) : Int)
          push_cast; omega
        · simp only [Pl.accL, List.append_assoc])
theorem k_l11Walk0 (n : Nat) : SoundC Try.prog (K_l11Walk n).1 (K_l11Walk n).2 := by
  induction n with
  | zero => exact sound_of hm CtxOK.nil (fun _ => []) (by kernel_rfl) fun x hx => absurd hx.2 (Nat.not_lt_zero _)
  | succ n ih =>
    have ih' := CtxOK.nil.and (K := K_l11Walk n) ih
    exact sound_of hm ((ih'.and k_l11Free).and k_l10Units) (fun x => A_l11Walk x.1 x.2.1 x.2.2) (by kernel_rfl) fun (x : WX) hl => (by
      have hl1 := hl.1
      have hl2 := hl.2
      clear hl
      rw [← vc_l11Walk n x]
      obtain ⟨c, most, ds⟩ := x
      obtain ⟨⟨hc, hz, hr⟩, hm1, hm2⟩ : HOk c ds ∧ 1 ≤ most ∧ most ≤ 131 := hl1
      replace hl2 : 61 - ds.length < n + 1 := hl2
      dsimp only
      simp [-List.getD_eq_getElem?_getD, -List.mem_cons, -Bool.forall_bool, -Bool.exists_bool, and_assoc, peta, tl_inj, ex_1, ex_2, ex_3, ex_4, ex_5, ex_6, ex_7, ex_8, ex_9, ey_2, ey_3, ey_4, ey_5, ey_6, ey_7, ey_8, ey_9]
      have hds := Pl.rgt_len hc hr
      have hul := Pl.units_len c.2 ds
      refine ⟨hc, hz.1, hz.2, by omega, hc, by omega, fun hb => ⟨fun h => (by rw [hb] at h; cases h), fun _ => ?_⟩, fun hb => ⟨fun hn => ⟨fun _ => ?_, fun h => (by rw [hb] at h; cases h)⟩, fun hn => ?_⟩⟩
      · rw [Pl.walk_le (by rw [Pl.hunt_bad hc hr hb]; exact hm1), Pl.hunt_bad hc hr hb]
        exact ⟨rfl, rfl⟩
      · rw [Pl.walk_le (by rw [Pl.hunt_all hc hr hb hn]; exact hm1), Pl.hunt_all hc hr hb hn]
        exact ⟨rfl, beq_iff_eq.2 hn⟩
      · have hn' : Pl.next c ds ≠ 0 := hn
        obtain ⟨n1, n2, r1, r2⟩ := Pl.next_right hc hr hn'
        have hm := Pl.cnfOk_many hc
        obtain ⟨w1, w2⟩ := Pl.choice (Pl.next c ds) n1 (by omega)
        have hcs := Pl.hunt_cases hc hr hb hn'
        have c1 : 1 ≤ ((Pl.one c ds).1 : Int) := by exact_mod_cast (Pl.hunt_cost c (ds ++ [-Pl.next c ds])).1
        have c2 : 1 ≤ ((Pl.two c ds).1 : Int) := by exact_mod_cast (Pl.hunt_cost c (ds ++ [Pl.next c ds])).1
        have e1 : Pl.accC c ds 1 = 1 + ((Pl.one c ds).1 : Int) := rfl
        have e2 : Pl.accC c ds 2 = 1 + ((Pl.one c ds).1 : Int) + ((Pl.two c ds).1 : Int) := rfl
        have hge : 1 + ((Pl.one c ds).1 : Int) ≤ (Pl.hunt c ds).1 := by
          rcases hcs with ⟨_, e⟩ | ⟨_, _, e⟩ | ⟨_, _, e⟩ <;> rw [e] <;> push_cast <;> omega
        have hge2 : (Pl.one c ds).2.2.2 = false → ((Pl.hunt c ds).1 : Int) = Pl.accC c ds 2 := fun g => by
          rcases hcs with ⟨g', e⟩ | ⟨_, _, e⟩ | ⟨_, _, e⟩
          · rw [g] at g'; cases g'
          · rw [e, e2]; push_cast; rfl
          · rw [e, e2]; push_cast; rfl
        refine ⟨fun hm3 => ⟨fun _ => ?_, fun h => (by rw [hb] at h; cases h)⟩, fun hm3 => ⟨⟨0, .inl ⟨rfl, rfl⟩, rfl, rfl⟩, fun i b hI => ⟨fun hlt => ⟨fun hbm => ?_, fun hbm => ?_⟩, fun hge3 => ?_⟩⟩⟩
        · rw [Pl.walk_gt (by omega)]
          exact ⟨by show (1 : Int) = most; omega, by simpa using hn⟩
        · refine ⟨by omega, by omega, ?_⟩
          rcases hI with ⟨rfl, rfl⟩ | ⟨rfl, h⟩ | ⟨rfl, _⟩
          · rw [w1, Cg.wrap_small (by omega) (by omega)]
            have ew : Pl.walk c (most - 1) (ds ++ [-Pl.next c ds]) = if ((Pl.one c ds).1 : Int) ≤ most - 1 then (((Pl.one c ds).1 : Int), (Pl.one c ds).2.2.2) else (most - 1, false) := rfl
            refine ⟨ds ++ [-Pl.next c ds], ((Rds.cel EncN.eI ds).join (Rds.row (ints_row _))).is, hc, hz.1, hz.2, r1, by omega, by omega, by simp; omega, ?_⟩
            rw [ew]
            by_cases hk : ((Pl.one c ds).1 : Int) ≤ most - 1
            · rw [if_pos hk]
              refine ⟨fun hf => ?_, fun hf => ⟨1, .inr (.inl ⟨rfl, .inl ⟨?_, by rw [e1]; omega, hf⟩⟩), by omega, rfl⟩⟩
              · rcases hcs with ⟨_, e⟩ | ⟨g, _⟩ | ⟨g, _⟩
                · rw [Pl.walk_le (by rw [e]; push_cast; omega), e]
                  exact ⟨by show IntKind.i64.wrap (1 + ((Pl.one c ds).1 : Int)) = ((1 + (Pl.one c ds).1 : Nat) : Int); rw [Cg.wrap_small (by omega) (by omega)]; push_cast; rfl, rfl⟩
                · rw [g] at hf; cases hf
                · rw [g] at hf; cases hf
              · rw [e1]; exact Cg.wrap_small (by omega) (by omega)
            · rw [if_neg hk]
              refine ⟨fun hf => (by cases hf), fun _ => ⟨1, .inr (.inl ⟨rfl, .inr ⟨?_, by rw [e1]; omega⟩⟩), by omega, rfl⟩⟩
              show IntKind.i64.wrap (1 + (most - 1)) = most
              rw [Cg.wrap_small (by omega) (by omega)]; omega
          · rcases h with ⟨rfl, h2, g1⟩ | ⟨rfl, h2⟩
            · rw [w2, Cg.wrap_small (x := most - _) (by rw [e1]; omega) (by rw [e1]; omega)]
              have ew : Pl.walk c (most - Pl.accC c ds 1) (ds ++ [Pl.next c ds]) = if ((Pl.two c ds).1 : Int) ≤ most - Pl.accC c ds 1 then (((Pl.two c ds).1 : Int), (Pl.two c ds).2.2.2) else (most - Pl.accC c ds 1, false) := rfl
              refine ⟨ds ++ [Pl.next c ds], ((Rds.cel EncN.eI ds).join (Rds.row (ints_row _))).is, hc, hz.1, hz.2, r2, by omega, by rw [e1]; omega, by simp; omega, ?_⟩
              rw [ew]
              by_cases hk : ((Pl.two c ds).1 : Int) ≤ most - Pl.accC c ds 1
              · rw [if_pos hk]
                refine ⟨fun hf => ?_, fun hf => ⟨2, .inr (.inr ⟨rfl, g1, .inl ⟨?_, by rw [e2]; rw [e1] at hk; omega, hf⟩⟩), by omega, rfl⟩⟩
                · rcases hcs with ⟨g, _⟩ | ⟨_, _, e⟩ | ⟨_, g, _⟩
                  · rw [g1] at g; cases g
                  · rw [Pl.walk_le (by rw [hge2 g1, e2]; rw [e1] at hk; omega), e]
                    exact ⟨by show IntKind.i64.wrap (Pl.accC c ds 1 + ((Pl.two c ds).1 : Int)) = ((1 + (Pl.one c ds).1 + (Pl.two c ds).1 : Nat) : Int); rw [e1, Cg.wrap_small (by omega) (by rw [e1] at hk; omega)]; push_cast; rfl, rfl⟩
                  · rw [g] at hf; cases hf
                · rw [e2, e1]; rw [e1] at hk; exact Cg.wrap_small (by omega) (by omega)
              · rw [if_neg hk]
                refine ⟨fun hf => (by cases hf), fun _ => ⟨2, .inr (.inr ⟨rfl, g1, .inr ⟨?_, by rw [e2]; rw [e1] at hk; omega⟩⟩), by omega, rfl⟩⟩
                show IntKind.i64.wrap (Pl.accC c ds 1 + (most - Pl.accC c ds 1)) = most
                rw [Cg.wrap_small (by omega) (by omega)]; omega
            · omega
          · omega
        · rcases hI with ⟨rfl, rfl⟩ | ⟨rfl, h⟩ | ⟨rfl, _⟩
          · omega
          · rcases h with ⟨rfl, h2, g1⟩ | ⟨rfl, h2⟩
            · rw [Pl.walk_gt (by rw [hge2 g1, e2]; rw [e1] at hbm; omega)]
              exact ⟨by show Pl.accC c ds 1 = most; omega, rfl⟩
            · rw [Pl.walk_gt (by rw [e1] at h2; omega)]
              exact ⟨rfl, rfl⟩
          · omega
        · rcases hI with ⟨rfl, rfl⟩ | ⟨rfl, h⟩ | ⟨rfl, g1, h⟩
          · omega
          · omega
          · rcases h with ⟨rfl, h2, g2⟩ | ⟨rfl, h2⟩
            · rw [Pl.walk_le (by rw [hge2 g1]; exact h2), Pl.hunt_none hc hr hb hn' g1 g2]
              exact ⟨by rw [e2]; push_cast; rfl, rfl⟩
            · rw [Pl.walk_gt (by rw [hge2 g1]; exact h2)]
              exact ⟨rfl, rfl⟩)
theorem k_l11FindA : SoundC Try.prog K_l11FindA.1 K_l11FindA.2 := SoundC.famF (fun x : FX => 61 - x.2.2.2.length) fun n => k_l11Find0 n
theorem k_l11WalkA : SoundC Try.prog K_l11WalkA.1 K_l11WalkA.2 := SoundC.fam (fun x : WX => 61 - x.2.2.length) fun n => k_l11Walk0 n
theorem k_l11Cost : SoundC Try.prog K_l11Cost.1 K_l11Cost.2 := sound_of hm (CtxOK.nil.and k_l11WalkA) (fun _ => []) (by kernel_rfl) fun (c, most) hl => (by
  obtain ⟨hc, hz, h1, h2⟩ : Pl.cnfOk c = true ∧ SzC c ∧ 0 ≤ most ∧ most ≤ 130 := hl
  rw [← vc_l11Cost c most]
  simp [-List.getD_eq_getElem?_getD, -List.mem_cons, -Bool.forall_bool, -Bool.exists_bool, and_assoc, peta, tl_inj, ex_1, ex_2, ex_3, ex_4, ex_5, ex_6, ex_7, ex_8, ex_9, ey_2, ey_3, ey_4, ey_5, ey_6, ey_7, ey_8, ey_9]
  refine ⟨fun h => (if_pos h).symm, fun h => ⟨[], Is_sl_of rfl fun i hi => absurd hi (Nat.not_lt_zero i), hc, hz.1, hz.2, Pl.rgt_nil c, ?_⟩⟩
  rw [Cg.wrap_small (by omega) (by omega)]
  exact ⟨by omega, by omega, (if_neg (by omega)).symm⟩)
theorem search_no {c : Pl.Cnf} {f : Int} (h0 : 0 ≤ f) (h : f < Pl.costOf c f) : Pl.search c f = (-1, [], [], false) := by
  have hcst := (Pl.hunt_cost c []).1
  unfold Pl.search
  rw [if_neg]
  unfold Pl.costOf at h
  split at h
  · omega
  · intro hle
    rw [Pl.walk_le (by omega)] at h
    change f < ((Pl.hunt c []).1 : Int) at h
    omega
theorem search_yes {c : Pl.Cnf} {f : Int} (h0 : 0 ≤ f) (h : Pl.costOf c f ≤ f) : ((Pl.hunt c []).1 : Int) ≤ f ∧ Pl.search c f = (f - (Pl.hunt c []).1, (Pl.hunt c []).2.1, (Pl.hunt c []).2.2.1, (Pl.hunt c []).2.2.2) := by
  have hle : ((Pl.hunt c []).1 : Int) ≤ f := by
    unfold Pl.costOf at h
    split at h
    · omega
    · by_cases hk : ((Pl.hunt c []).1 : Int) ≤ f + 1
      · rw [Pl.walk_le hk] at h; exact h
      · rw [Pl.walk_gt (by omega)] at h; change f + 1 ≤ f at h; omega
  unfold Pl.search
  rw [if_pos hle]
  exact ⟨hle, rfl⟩
theorem g_l11Search (c : Pl.Cnf) (f : Int) (hc : Pl.cnfOk c = true) (hz : SzC c) (h1 : 0 ≤ f) (h2 : f ≤ 130) : GoalW Try.prog [K_l11Cost, K_l11FindA] ([]) K_l11Search.1 K_l11Search.2 (c, f) := GoalW.of (vc_l11Search c f) (by
  simp [-List.getD_eq_getElem?_getD, -List.mem_cons, -Bool.forall_bool, -Bool.exists_bool, and_assoc, peta, tl_inj, ex_1, ex_2, ex_3, ex_4, ex_5, ex_6, ex_7, ex_8, ex_9, ey_2, ey_3, ey_4, ey_5, ey_6, ey_7, ey_8, ey_9]
  refine ⟨hc, hz.1, hz.2, h1, h2, fun h => ?_, fun h => ?_⟩
  · rw [search_no h1 h]; exact ⟨rfl, rfl, rfl, rfl⟩
  · obtain ⟨hle, e⟩ := search_yes h1 h
    rw [e]
    exact ⟨hc, hz.1, hz.2, Pl.rgt_nil c, hle, h2, by omega, rfl, rfl, rfl, rfl⟩)
theorem k_l11Search : SoundC Try.prog K_l11Search.1 K_l11Search.2 := sound_ofW hm ((CtxOK.nil.and k_l11FindA).and k_l11Cost) (fun _ => []) (by kernel_rfl) fun x hl => g_l11Search x.1 x.2 hl.1 hl.2.1 hl.2.2.1 hl.2.2.2
theorem run_yes {c : Pl.Cnf} {f : Int} (hc : Pl.cnfOk c = true) (h0 : 0 ≤ f) (h1 : f ≤ 130) (h : ((Pl.hunt c []).1 : Int) ≤ f) : Pl.huntRun c f = if (Pl.hunt c []).2.2.2 = true then ((Pl.hunt c []).2.2.1, [], true) else if c.2.length + (Pl.hunt c []).2.1.length > 400 then ([], [], false) else ([], (Pl.hunt c []).2.1, true) := by
  unfold Pl.huntRun; rw [if_pos ⟨hc, h0, h1, h⟩]
theorem run_no {c : Pl.Cnf} {f : Int} (h : ¬ (Pl.cnfOk c = true ∧ 0 ≤ f ∧ f ≤ 130 ∧ ((Pl.hunt c []).1 : Int) ≤ f)) : (Pl.huntRun c f).1 = [] ∧ (Pl.huntRun c f).2.1 = [] ∧ (Pl.huntRun c f).2.2 = false := by
  unfold Pl.huntRun; rw [if_neg h]; exact ⟨rfl, rfl, rfl⟩
theorem k_sHuntRun : SoundC Try.prog K_sHuntRun.1 K_sHuntRun.2 := sound_of hm ((CtxOK.nil.and k_l11Search).and k_sCnfOk) (fun _ => []) (by kernel_rfl) fun (x : Pl.Cnf × Int) hl => (by
  obtain ⟨c, f⟩ := x
  replace hl : SzC c := hl
  rw [← vc_sHuntRun c f]
  simp [-List.getD_eq_getElem?_getD, -List.mem_cons, -Bool.forall_bool, -Bool.exists_bool, and_assoc, peta, tl_inj, ex_1, ex_2, ex_3, ex_4, ex_5, ex_6, ex_7, ex_8, ex_9, ey_2, ey_3, ey_4, ey_5, ey_6, ey_7, ey_8, ey_9]
  refine ⟨hl.1, hl.2, fun h => run_no fun e => (by rw [h] at e; cases e.1), fun hc => ⟨fun h => run_no fun e => by omega, fun h0 => ⟨fun h => run_no fun e => by omega, fun h1 => ⟨hc, hl.1, hl.2, h0, h1, ?_⟩⟩⟩⟩
  by_cases hle : ((Pl.hunt c []).1 : Int) ≤ f
  · have e : Pl.search c f = (f - (Pl.hunt c []).1, (Pl.hunt c []).2.1, (Pl.hunt c []).2.2.1, (Pl.hunt c []).2.2.2) := if_pos hle
    have h2 := (Pl.hunt_cost c []).2
    rw [e, run_yes hc h0 h1 hle, Cg.wrap_small (by dsimp only; omega) (by dsimp only; have := hl.1; omega)]
    dsimp only
    refine ⟨fun h => by rw [if_pos h]; exact ⟨rfl, rfl, rfl⟩, fun h => ⟨fun h3 => by omega, fun _ => ⟨fun h3 => ?_, fun h3 => ?_⟩⟩⟩
    · rw [if_neg (by rw [h]; simp), if_pos (by omega)]; exact ⟨rfl, rfl, rfl⟩
    · rw [if_neg (by rw [h]; simp), if_neg (by omega)]; exact ⟨rfl, rfl, rfl⟩
  · have e : Pl.search c f = (-1, [], [], false) := if_neg hle
    rw [e]
    exact ⟨fun h => (by cases h), fun _ => ⟨fun _ => run_no fun e => hle e.2.2.2, fun h => absurd h (by decide)⟩⟩)
theorem k_hcall0 (n : Nat) : SoundC Try.prog (K_hcall n).1 (K_hcall n).2 := by
  induction n with
  | zero => exact sound_of hm CtxOK.nil (fun _ => []) (by kernel_rfl) fun x hx => absurd hx.2 (Nat.not_lt_zero _)
  | succ n ih =>
    have ih' := CtxOK.nil.and k_iClauseOf
    exact sound_of hm (((((ih'.and k_negated).and (K := K_hcall n) ih).and k_Clone).and k_Contains).and k_units) (fun x => A_hcall x.1 x.2.1 x.2.2.1 x.2.2.2) (by kernel_rfl) fun (x : FX) hl => (by
      have hl1 := hl.1
      have hl2 := hl.2
      clear hl
      rw [← vc_hcall n x]
      obtain ⟨c, f, log, ds⟩ := x
      obtain ⟨⟨hc, hz, hr⟩, h0, hf, hlog⟩ : HOk c ds ∧ 0 ≤ f ∧ f ≤ 130 ∧ log.length + f ≤ 1000 := hl1
      replace hl2 : 61 - ds.length < n + 1 := hl2
      dsimp only
      simp [-List.getD_eq_getElem?_getD, -List.mem_cons, -Bool.forall_bool, -Bool.exists_bool, and_assoc, peta, tl_inj, ex_1, ex_2, ex_3, ex_4, ex_5, ex_6, ex_7, ex_8, ex_9, ey_2, ey_3, ey_4, ey_5, ey_6, ey_7, ey_8, ey_9]
      have hds := Pl.rgt_len hc hr
      obtain ⟨hc1, hc2⟩ := Pl.hunt_cost c ds
      have hm := Pl.cnfOk_many hc
      have hnl := Pl.nots_len' ds
      refine ⟨fun e => ⟨0, log, true, [], false, ⟨fun h => absurd h (by omega), fun _ => ⟨rfl, rfl, rfl⟩⟩, rfl, rfl, e, rfl, rfl, .inr rfl⟩, fun hf0 => ?_⟩
      have hw : IntKind.i64.wrap (f - 1) = f - 1 := Cg.wrap_small (by omega) (by omega)
      rw [Pl.units_put hc hr, hw]
      refine ⟨⟨c.1, hc⟩, hz.1, hz.2, by omega, fun hb => ?_, fun hb => ⟨by omega, by omega, by omega, f - 1, log ++ [Pl.note ds], false, [], false, ⟨fun _ => by rw [Pl.hunt_bad hc hr hb]; rfl, fun h => absurd h (by rw [Pl.hunt_bad hc hr hb]; show ¬ f < ((1 : Nat) : Int); omega)⟩, rfl, rfl, rfl, by simp, rfl, intss_push⟩⟩
      obtain ⟨_, u2⟩ := Pl.units_fix hc 61 ds (Pl.uncov_le ds) hr hb
      change Pl.Rgt c (Pl.unitsS c.2 ds).1 at u2
      have hp := Pl.rgt_cons hc u2
      have hul := Pl.units_len c.2 ds
      refine ⟨hm.1, by omega, ⟨c.1.toNat, by omega, rfl, by rw [Pl.marks_end (by omega)]; rfl, by rw [Pl.marks_end (by omega)]; simp [Pl.valsL], by omega, rfl, ?_⟩, fun k free out hk hfr hout => ⟨fun hk0 => ?_, fun hk0 => ?_⟩⟩
      · rw [Pl.marks_end (by omega)]
        show IsO _ (arB (List.replicate _ false ++ []))
        rw [List.append_nil]
        exact bools_make
      · clear hc1 hc2 hnl hb u2 hlog hl2 hz
        generalize (Pl.unitsS c.2 ds).1 = put at *
        obtain ⟨j, rfl⟩ : ∃ j, k = j + 1 := ⟨k - 1, by omega⟩
        have ej : ((j + 1 : Nat) : Int) = (j : Int) + 1 := by push_cast; rfl
        have ew : IntKind.i64.wrap (((j + 1 : Nat) : Int) - 1) = (j : Int) := by rw [Cg.wrap_small (by omega) (by omega)]; omega
        have en : IntKind.i64.wrap (-((j + 1 : Nat) : Int)) = -((j : Int) + 1) := by rw [Cg.wrap_small (by omega) (by omega)]; omega
        rw [ew, en, Int.toNat_natCast, ej]
        have hv : (Pl.valsL put ((Pl.marks c.1).drop j)).length = (Pl.valsL put ((Pl.marks c.1).drop (j + 1))).length + 1 := by
          rw [Pl.valsL_cons (by omega)]; rfl
        have hlen : out.length = j + 1 + (Pl.valsL put ((Pl.marks c.1).drop (j + 1))).length := by rw [hout]; simp
        refine ⟨by omega, fun hin => ⟨by omega, by omega, by omega, j, by omega, by omega, ?_, by omega, rfl, ?_⟩, fun hin => ⟨by omega, fun hni => ⟨j, by omega, by omega, (Pl.down_no (by omega) hm.2 hin hni).1, by omega, rfl, .inr ?_⟩, fun hni => ⟨j, by omega, by omega, ?_, by omega, rfl, .inr ?_⟩⟩⟩
        · rw [hfr]; exact (Pl.down_in hp (by omega) hm.2 hin).1
        · have := bools_set (l := out) (i := j) (v := true)
          rw [hout, (Pl.down_in hp (by omega) hm.2 hin).2] at this
          rw [hout]; exact this
        · rw [hout]; exact (Pl.down_no (by omega) hm.2 hin hni).2
        · rw [hfr]; exact (Pl.down_neg (by omega) hm.2 hin hni).1
        · rw [hout]; exact (Pl.down_neg (by omega) hm.2 hin hni).2
      · subst hk0
        change free = Pl.next c ds at hfr
        change out = Pl.valsL (Pl.unitsS c.2 ds).1 (Pl.marks c.1) at hout
        subst hfr
        refine ⟨fun hn => ⟨f - 1, log, false, Pl.valsL (Pl.unitsS c.2 ds).1 (Pl.marks c.1), true, ⟨fun _ => by rw [Pl.hunt_all hc hr hb hn, List.append_nil]; rfl, fun h => absurd h (by rw [Pl.hunt_all hc hr hb hn]; show ¬ f < ((1 : Nat) : Int); omega)⟩, hout, rfl, rfl, rfl, rfl, .inr rfl⟩, fun hn => ?_⟩
        obtain ⟨n1, n2, r1, r2⟩ := Pl.next_right hc hr hn
        refine ⟨⟨0, f - 1, log, ⟨by omega, by show (1 : Int) ≤ f; omega, rfl, by simp [Pl.accL], fun h => absurd h (by omega), fun h => absurd h (by omega)⟩, Cg.wrap_small (by omega) (by omega), rfl, rfl, rfl, rfl, .inr rfl⟩, fun i f' log' hI => ⟨fun hlt => ?_, fun hge => ?_⟩⟩
        · have hx : ∃ x, [-Pl.next c ds, Pl.next c ds].getD i 0 = x ∧ Pl.Rgt c (ds ++ [x]) ∧ (i = 0 ∧ ds ++ [x] = ds ++ [-Pl.next c ds] ∨ i = 1 ∧ ds ++ [x] = ds ++ [Pl.next c ds]) := by
            rcases (by omega : i = 0 ∨ i = 1) with rfl | rfl
            · exact ⟨_, rfl, r1, .inl ⟨rfl, rfl⟩⟩
            · exact ⟨_, rfl, r2, .inr ⟨rfl, rfl⟩⟩
          obtain ⟨x, hx, hrx, hix⟩ := hx
          have hI' := hI
          have hal := Pl.acc_len c ds i (by omega)
          obtain ⟨_, hacc, e1, e2, _, _⟩ := hI
          have hll : log'.length = log.length + (Pl.accL c ds i).length := by rw [e2]; simp
          rw [hx]
          refine ⟨hlt, by omega, by omega, by omega, c.1, c.2, hc, hz.1, hz.2, f', log', ds ++ [x], hrx, by omega, by omega, by omega, by simp; omega, ((Rds.cel EncN.eI ds).join (Rds.row (ints_row _))).is, rfl, rfl, rfl, rfl, .inr rfl, fun a l out v ok hP => ?_⟩
          obtain ⟨p1, p2⟩ := Pl.huntP_up hc hr hb hn hI' hix hP
          exact ⟨fun h => ⟨a, l, p1 (.inl h), rfl, rfl, rfl, rfl, .inr rfl⟩, fun h => ⟨fun h' => ⟨a, l, p1 (.inr h'), rfl, rfl, rfl, rfl, .inr rfl⟩, fun h' => ⟨i + 1, a, l, p2 h h', by omega, (Enc.ints [-Pl.next c ds, Pl.next c ds] _).2 rfl, by rw [Cg.wrap_small (by omega) (by omega)]; push_cast; rfl, rfl, rfl, rfl, rfl, h', .inr rfl⟩⟩⟩
        · obtain ⟨hi, hacc, rfl, rfl, hi1, hi2⟩ := hI
          have : i = 2 := by omega
          subst this
          have e := Pl.hunt_none hc hr hb hn (hi1 (by omega)) (hi2 (by omega))
          have e2 : Pl.accC c ds 2 = 1 + ((Pl.one c ds).1 : Int) + ((Pl.two c ds).1 : Int) := rfl
          have c1 := (Pl.hunt_cost c (ds ++ [-Pl.next c ds])).2
          have c2 := (Pl.hunt_cost c (ds ++ [Pl.next c ds])).2
          have hlo : ((Pl.one c ds).2.1.length : Int) ≤ (Pl.one c ds).1 := by exact_mod_cast c1
          have hlt : ((Pl.two c ds).2.1.length : Int) ≤ (Pl.two c ds).1 := by exact_mod_cast c2
          have hll : (Pl.accL c ds 2).length = (Pl.one c ds).2.1.length + (Pl.two c ds).2.1.length := by simp [Pl.accL]
          refine ⟨by omega, by omega, by rw [List.length_append]; omega, f - Pl.accC c ds 2, log ++ Pl.accL c ds 2 ++ [Pl.note ds], false, [], false, ⟨fun _ => ?_, fun h => absurd h (by rw [e]; push_cast; omega)⟩, rfl, rfl, rfl, by simp only [List.length_append, List.length_singleton], rfl, intss_push⟩
          rw [e]
          refine Prod.ext ?_ (Prod.ext (by simp [Pl.accL]) rfl)
          show f - Pl.accC c ds 2 = f - ((1 + (Pl.one c ds).1 + (Pl.two c ds).1 : Nat) : Int)
          push_cast; omega)
theorem k_hcallA : SoundC Try.prog K_hcallA.1 K_hcallA.2 := SoundC.famZ (fun x : FX => 61 - x.2.2.2.length) fun n => k_hcall0 n
theorem k_iHuntRun : SoundC Try.prog K_iHuntRun.1 K_iHuntRun.2 := sound_of hm (((CtxOK.nil.and k_hcallA).and k_within).and k_iCnfOk) (fun _ => []) (by kernel_rfl) fun (x : Pl.Cnf × Int) hl => (by
  obtain ⟨c, f⟩ := x
  replace hl : SzC c := hl
  rw [← vc_iHuntRun c f]
  simp [-List.getD_eq_getElem?_getD, -List.mem_cons, -Bool.forall_bool, -Bool.exists_bool, and_assoc, peta, tl_inj, ex_1, ex_2, ex_3, ex_4, ex_5, ex_6, ex_7, ex_8, ex_9, ey_2, ey_3, ey_4, ey_5, ey_6, ey_7, ey_8, ey_9]
  refine ⟨hl.1, hl.2, fun h => run_no fun e => (by rw [h] at e; cases e.1), fun hc => ⟨fun h => run_no fun e => ?_, fun h => ?_⟩⟩
  · unfold Pl.withinI at h
    rw [decide_eq_true e.2.1, decide_eq_true e.2.2.1] at h
    cases h
  · unfold Pl.withinI at h
    simp only [Bool.and_eq_true, decide_eq_true_eq] at h
    obtain ⟨h0, h1⟩ := h
    have hz := hl.1
    have h2 := (Pl.hunt_cost c []).2
    refine ⟨c.1, c.2, hc, hl.1, hl.2, f, [], [], Pl.rgt_nil _, h0, h1, by simp; omega, rfl, rfl, rfl, rfl, rfl, fun a l out v ok hP => ?_⟩
    change ((((Pl.hunt c []).1 : Int) ≤ f → _) ∧ (f < ((Pl.hunt c []).1 : Int) → _)) at hP
    by_cases hle : ((Pl.hunt c []).1 : Int) ≤ f
    · have := hP.1 hle
      rw [List.nil_append] at this
      obtain ⟨rfl, rfl, rfl, rfl, rfl⟩ : a = f - (Pl.hunt c []).1 ∧ l = (Pl.hunt c []).2.1 ∧ out = false ∧ v = (Pl.hunt c []).2.2.1 ∧ ok = (Pl.hunt c []).2.2.2 := by
        simpa only [Prod.mk.injEq] using this
      rw [run_yes hc h0 h1 hle, Cg.wrap_small (by omega) (by omega)]
      refine ⟨fun h => by rw [if_pos h]; exact ⟨rfl, rfl, rfl⟩, fun h => ⟨fun h3 => (by cases h3), fun _ => ⟨fun h3 => ?_, fun h3 => ?_⟩⟩⟩
      · rw [if_neg (by rw [h]; simp), if_pos (by omega)]; exact ⟨rfl, rfl, rfl⟩
      · rw [if_neg (by rw [h]; simp), if_neg (by omega)]; exact ⟨rfl, rfl, rfl⟩
    · obtain ⟨e1, e2, e3⟩ := hP.2 (by omega)
      exact ⟨fun h => (by rw [show ok = false from e3] at h; cases h), fun _ => ⟨fun _ => run_no fun e => hle e.2.2.2, fun h => (by rw [show out = true from e1] at h; cases h)⟩⟩)
theorem k_DrawHuntRun : SoundC Try.prog K_DrawHuntRun.1 K_DrawHuntRun.2 := sound_of hm (((CtxOK.nil.and k_num).and k_l10Cnf).and k_l16Open) (fun _ => []) (by kernel_rfl) fun (b : List Int) hb => (by
  obtain ⟨h1, h2⟩ : Sz b ∧ Byt b := hb
  rw [← vc_DrawHuntRun b]
  simp [-List.getD_eq_getElem?_getD, -List.mem_cons, -Bool.forall_bool, -Bool.exists_bool, and_assoc, peta, tl_inj, ex_1, ex_2, ex_3, ex_4, ex_5, ex_6, ex_7, ex_8, ex_9, ey_2, ey_3, ey_4, ey_5, ey_6, ey_7, ey_8, ey_9]
  exact ⟨by omega, h2, fun y hy => ⟨hy.to (by omega) (by omega), fun a l q hs q1 q2 => ⟨hy.to (by omega) (by omega), fun _ _ => hs⟩⟩⟩)
theorem k_wpBools : SoundC Try.prog K_wpBools.1 K_wpBools.2 := sound_of hm CtxOK.nil (fun (l, m) => A_wpBools l m) (by kernel_rfl) fun (l, m) hl => (by
  replace hl : Sz l := hl
  rw [← vc_wpBools l m]
  simp [-List.getD_eq_getElem?_getD, -List.mem_cons, -Bool.forall_bool, -Bool.exists_bool, and_assoc, peta, tl_inj, ex_1, ex_2, ex_3, ex_4, ex_5, ex_6, ex_7, ex_8, ex_9, ey_2, ey_3, ey_4, ey_5, ey_6, ey_7, ey_8, ey_9]
  refine ⟨fun h e => h (by rw [e]), fun h => ⟨⟨0, by omega, by omega, by simp, rfl⟩, fun k hk hlm he => ⟨fun hlt => ⟨hlt, by omega, (eq_step false hlt hlm he).1, fun h => ⟨k + 1, hlt, hlm, (eq_step false hlt hlm he).2 h, by omega, wrap_succ hlt hl⟩⟩, fun hge => ?_⟩⟩⟩
  rw [drop_end (by omega), drop_end (l := m) (by omega)] at he
  exact he.2 rfl)
theorem k_wpLog : SoundC Try.prog K_wpLog.1 K_wpLog.2 := sound_of hm (CtxOK.nil.and k_wpNums) (fun (l, m) => A_wpLog l m) (by kernel_rfl) fun (l, m) hl => (by
  obtain ⟨h1, h2⟩ : Sz l ∧ ∀ y ∈ l, Sz y := hl
  rw [← vc_wpLog l m]
  simp [-List.getD_eq_getElem?_getD, -List.mem_cons, -Bool.forall_bool, -Bool.exists_bool, and_assoc, peta, tl_inj, ex_1, ex_2, ex_3, ex_4, ex_5, ex_6, ex_7, ex_8, ex_9, ey_2, ey_3, ey_4, ey_5, ey_6, ey_7, ey_8, ey_9]
  refine ⟨fun h e => h (by rw [e]), fun h => ⟨⟨0, by omega, by omega, by simp, rfl⟩, fun k hk hlm he => ⟨fun hlt => ⟨hlt, by omega, h2 _ (getD_mem [] hlt), (eq_step [] hlt hlm he).1, fun h => ⟨k + 1, hlt, hlm, (eq_step [] hlt hlm he).2 h, by omega, wrap_succ hlt h1⟩⟩, fun hge => ?_⟩⟩⟩
  rw [drop_end (by omega), drop_end (l := m) (by omega)] at he
  exact he.2 rfl)
theorem k_iHuntRunF : SoundC Try.prog K_iHuntRunF.1 K_iHuntRunF.2 := k_iHuntRun.imf
theorem k_yHuntRun : SoundC Try.prog K_yHuntRun.1 K_yHuntRun.2 := sound_of hm ((((((((CtxOK.nil.and k_iLogEnds).and k_iLogOk).and k_iCnfIs).and k_wpLog).and k_wpBools).and k_sHuntRun).and k_iHuntRun).and k_DrawHuntRun) (fun _ => []) (by kernel_rfl) fun (b : List Int) hb => (by
  replace hb : Byt b := hb
  rw [← vc_yHuntRun b]
  simp [-List.getD_eq_getElem?_getD, -List.mem_cons, -Bool.forall_bool, -Bool.exists_bool, and_assoc, peta, tl_inj, ex_1, ex_2, ex_3, ex_4, ex_5, ex_6, ex_7, ex_8, ex_9, ey_2, ey_3, ey_4, ey_5, ey_6, ey_7, ey_8, ey_9]
  refine fun hsz => ⟨by omega, hb, fun a l f hs => ?_⟩
  obtain ⟨s1, s2, s3⟩ := hs.len
  have z1 : l.length ≤ 4294967296 := by omega
  have z2 : ∀ x ∈ l, x.length ≤ 4294967296 := fun x hx => by have := s3 x hx; omega
  obtain ⟨g1, g2, g3⟩ := Pl.huntRun_sz (a, l) f
  have g3' : ∀ y ∈ (Pl.huntRun (a, l) f).2.1, y.length ≤ 4294967296 := fun y hy => by have := g3 y hy; omega
  refine ⟨z1, z2, z1, z2, by omega, by omega, g3', fun _ => ⟨by omega, by omega, g3'⟩, fun hok => ?_⟩
  rcases Pl.huntRun_cases (a, l) f with e | ⟨hc, h0, h1, hle, ⟨his, e⟩ | ⟨hf, hn, ⟨r, hr⟩, hlog, e⟩⟩
  · rw [e] at hok; cases hok
  · rw [e]
    exact ⟨fun _ => ⟨z1, z2, by rw [e] at g1; change (Pl.hunt (a, l) []).2.2.1.length ≤ 60 at g1; show (Pl.hunt (a, l) []).2.2.1.length ≤ _; omega, his⟩, fun h => absurd rfl h⟩
  · rw [e]
    rw [e] at g2 g3
    dsimp only at g2 g3 ⊢
    have h2 := (Pl.hunt_cost (a, l) []).2
    refine ⟨fun h => (by rw [hr] at h; simp at h), fun _ => ⟨fun _ => ⟨z1, z2, by omega, fun y hy => by have := g3 y hy; omega, fun _ => ⟨by omega, fun _ => by omega, ?_⟩, hlog⟩, rfl⟩⟩
    rw [hr]
    simp [Pl.logEnds])
theorem k_yHuntBent : SoundC Try.prog K_yHuntBent.1 K_yHuntBent.2 := sound_of hm ((((CtxOK.nil.and k_sHuntRun).and k_iHuntRun).and k_iCnfOk).and k_DrawHuntRun) (fun _ => []) (by kernel_rfl) fun (b : List Int) hb => (by
  replace hb : Byt b := hb
  rw [← vc_yHuntBent b]
  simp [-List.getD_eq_getElem?_getD, -List.mem_cons, -Bool.forall_bool, -Bool.exists_bool, and_assoc, peta, tl_inj, ex_1, ex_2, ex_3, ex_4, ex_5, ex_6, ex_7, ex_8, ex_9, ey_2, ey_3, ey_4, ey_5, ey_6, ey_7, ey_8, ey_9]
  refine fun hsz => ⟨by omega, hb, fun a l f hs => ?_⟩
  obtain ⟨s1, s2, s3⟩ := hs.len
  have z1 : l.length ≤ 4294967296 := by omega
  have z2 : ∀ x ∈ l, x.length ≤ 4294967296 := fun x hx => by have := s3 x hx; omega
  have key : ¬ (Pl.cnfOk (a, l) = true ∧ 0 ≤ f ∧ f ≤ 130 ∧ ((Pl.hunt (a, l) []).1 : Int) ≤ f) → ((Pl.huntRun (a, l) f).2.2 = false → ((Pl.huntRun (a, l) f).1 = [] → (Pl.huntRun (a, l) f).2.1 = []) ∧ (Pl.huntRun (a, l) f).1 = []) ∧ (Pl.huntRun (a, l) f).2.2 = false := fun h => by
    obtain ⟨e1, e2, e3⟩ := run_no h
    exact ⟨fun _ => ⟨fun _ => e2, e1⟩, e3⟩
  have hcost := (Pl.hunt_cost (a, l) []).1
  exact ⟨z1, z2, fun hc => ⟨fun h1 => ⟨z1, z2, z1, z2, fun h2 => key fun e => by omega⟩, fun h1 => ⟨z1, z2, z1, z2, key fun e => by omega⟩⟩, fun hc => ⟨z1, z2, z1, z2, key fun e => by rw [hc] at e; cases e.1⟩⟩)
theorem k_yHuntFuel : SoundC Try.prog K_yHuntFuel.1 K_yHuntFuel.2 := sound_of hm (((((CtxOK.nil.and k_wpLog).and k_wpBools).and k_sHuntRun).and k_iHuntRun).and k_DrawHuntRun) (fun _ => []) (by kernel_rfl) fun (b : List Int) hb => (by
  replace hb : Byt b := hb
  rw [← vc_yHuntFuel b]
  simp [-List.getD_eq_getElem?_getD, -List.mem_cons, -Bool.forall_bool, -Bool.exists_bool, and_assoc, peta, tl_inj, ex_1, ex_2, ex_3, ex_4, ex_5, ex_6, ex_7, ex_8, ex_9, ey_2, ey_3, ey_4, ey_5, ey_6, ey_7, ey_8, ey_9]
  refine fun hsz => ⟨by omega, hb, fun a l f hs => ?_⟩
  obtain ⟨s1, s2, s3⟩ := hs.len
  have z1 : l.length ≤ 4294967296 := by omega
  have z2 : ∀ x ∈ l, x.length ≤ 4294967296 := fun x hx => by have := s3 x hx; omega
  refine ⟨z1, z2, z1, z2, fun hok => ?_⟩
  obtain ⟨g1, g2, g3⟩ := Pl.huntRun_sz (a, l) f
  rw [Pl.huntRun_more hok]
  exact ⟨z1, z2, fun _ => ⟨by omega, fun _ => ⟨by omega, fun y hy => by have := g3 y hy; omega, rfl⟩, rfl⟩, hok⟩)
theorem k_yHuntOnly : SoundC Try.prog K_yHuntOnly.1 K_yHuntOnly.2 := sound_of hm ((((CtxOK.nil.and k_wpBools).and k_sHuntRun).and k_iHuntRunF).and k_DrawHuntRun) (fun _ => A_yHuntOnly) (by kernel_rfl) fun (b : List Int) hb => (by
  replace hb : Byt b := hb
  rw [← vc_yHuntOnly b]
  simp [-List.getD_eq_getElem?_getD, -List.mem_cons, -Bool.forall_bool, -Bool.exists_bool, and_assoc, peta, tl_inj, ex_1, ex_2, ex_3, ex_4, ex_5, ex_6, ex_7, ex_8, ex_9, ey_2, ey_3, ey_4, ey_5, ey_6, ey_7, ey_8, ey_9]
  refine fun hsz => ⟨by omega, hb, fun a l f hs => ?_⟩
  obtain ⟨s1, s2, s3⟩ := hs.len
  have z1 : l.length ≤ 4294967296 := by omega
  have z2 : ∀ x ∈ l, x.length ≤ 4294967296 := fun x hx => by have := s3 x hx; omega
  refine ⟨z1, z2, z1, z2, fun hok hnil => ⟨by omega, ⟨a, l, hs, (Pl.huntRun (a, l) f).1, ?_, (Pl.huntRun_sz (a, l) f).1, 0, by omega, rfl, rfl, rfl, rfl, rfl, by simp, ?_⟩, ?_⟩⟩
  · rcases Pl.huntRun_cases (a, l) f with e | ⟨hc, h0, h1, hle, ⟨his, e⟩ | ⟨hf, hn, ⟨r, hr⟩, hlog, e⟩⟩
    · rw [e] at hok; cases hok
    · rw [e]; exact his
    · rw [e] at hnil; change (Pl.hunt (a, l) []).2.1 = [] at hnil; rw [hr] at hnil; simp at hnil
  · rw [List.take_zero, List.append_nil]
    exact intss_join0'
  · clear hok hnil z1 z2 s1 s2 s3 hs
    intro a l v k hs hi hv hk
    obtain ⟨s1, s2, s3⟩ := hs.len
    have hpl := Pl.pins_len v
    have step : ∀ m : Int, m = (if v.getD k false = true then (k : Int) + 1 else -((k : Int) + 1)) → k < v.length → IsO (AObj.arr (l.length + min k (Pl.pins v).length + 1) 1 (joinC (l.length + min k (Pl.pins v).length) (cII (l ++ (Pl.pins v).take k)) (rowsCell [[AV.lit 1 1 (rowsCell [[i64 m]])]]))) (arII (l ++ (Pl.pins v).take (k + 1))) := fun m hm hlt => by
      have h := IsO_join EncN.eII (l := l ++ (Pl.pins v).take k) (pin_row m)
      rw [Pl.pins_get hlt, ← hm, ← List.append_assoc]
      rw [List.length_append, List.length_take] at h
      exact h
    have hwk : IntKind.i64.wrap ((k : Int) + 1) = (k : Int) + 1 := Cg.wrap_small (by omega) (by omega)
    rw [hwk]
    refine ⟨fun hlt => ⟨hlt, fun h => ⟨by omega, a, l, hs, v, hi, hv, k + 1, by omega, by omega, rfl, by push_cast; rfl, rfl, rfl, rfl, by omega, ?_⟩, fun h => ⟨by omega, a, l, hs, v, hi, hv, k + 1, by omega, by omega, rfl, by push_cast; rfl, rfl, rfl, rfl, by omega, ?_⟩⟩, fun hge => ?_⟩
    · exact step _ (by rw [h, Cg.wrap_small (by omega) (by omega)]; simp) hlt
    · exact step _ (by rw [h]; simp) hlt
    · have e := Pl.huntRun_pins hi (by show l.length + v.length ≤ 400; omega)
      change Pl.huntRun (a, l ++ Pl.pins v) 130 = _ at e
      rw [List.take_of_length_le (by omega), e]
      refine ⟨by omega, fun x hx => ?_, fun _ => ⟨by show v.length ≤ _; omega, rfl⟩, rfl⟩
      rcases hx with hx | hx
      · have := s3 x hx; omega
      · obtain ⟨i, _, rfl⟩ := List.mem_map.1 hx
        simp)
end Cg
