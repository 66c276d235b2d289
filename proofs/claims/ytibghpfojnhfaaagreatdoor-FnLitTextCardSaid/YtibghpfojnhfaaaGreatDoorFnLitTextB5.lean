/-
  What the law leans on, part 5. No condition.
-/
import Derived.Lib.LaidTab
import Derived.LaidSub
import Derived.LaidMore
import Derived.Lay
import Derived.MakeChecks
import Derived.Handed
import Derived.Stop.LaidErr
import Derived.Shelf.Vars
import Derived.LaidLaws
import Derived.Test.YtibghpfojnhfaaaGreatDoorRows
import Derived.Test.YtibghpfojnhfaaaGreatDoorFnLitTextB1
import Derived.Test.YtibghpfojnhfaaaGreatDoorFnLitTextB2
import Derived.Test.YtibghpfojnhfaaaGreatDoorFnLitTextB3
import Derived.Test.YtibghpfojnhfaaaGreatDoorFnLitTextB4
/-
  The codes' contracts: the laws that atoms and literals are read back as written. No condition.
-/
set_option linter.unusedVariables false
set_option linter.unusedSimpArgs false
set_option maxRecDepth 100000
namespace Pl
open Go Cg
theorem numsR_len : ∀ {ts : List Tm} {ns : List Int}, (∀ t ∈ ts, right t = true) → (∀ n ∈ ns, In64 n) → (numsB ts ns).length ≤ ts.length * 200
  | [], _, _, _ => by simp [numsB]
  | _ :: _, [], _, _ => by simp [numsB]
  | t :: ts, n :: ns, h1, h2 => by
    have h3 := right_cost (h1 t List.mem_cons_self)
    have h5 := textB_len t
    have h6 := itoa_len (h2 n List.mem_cons_self)
    have h4 := numsR_len (ts := ts) (ns := ns) (fun x hx => h1 x (List.mem_cons_of_mem _ hx)) fun x hx => h2 x (List.mem_cons_of_mem _ hx)
    simp only [numsB, numB, List.length_append, List.length_cons, List.length_nil, Nat.succ_mul]
    omega
theorem atomR_len {x : Atm} (h : atomRight x = true) : (atomB x).length ≤ 900 := by
  obtain ⟨k, a, b, ts, ns, bd, sc⟩ := x
  by_cases h0 : k = 1
  · obtain ⟨_, _, _, _, ha, hb⟩ := atom_one h0 h
    rw [atomB_eq h0]
    have := textB_len (.mk a.1 a.2)
    have := textB_len (.mk b.1 b.2)
    have := right_cost ha
    have := right_cost hb
    simp only [List.length_append, List.length_singleton]
    omega
  · rw [atomB_sum h0]
    obtain ⟨s1, s2, s3, s4⟩ := sum_facts (x := (k, a, b, ts, ns, bd, sc)) h0 h
    obtain ⟨_, _, _, _, _, _, _, _, hr, _⟩ := atom_two h0 h
    have := itoa_len s3
    have t := numsR_len hr s4
    dsimp only at *
    simp only [List.length_append]
    split <;> simp only [List.length_cons, List.length_nil] <;> omega
theorem ltx_size (x : Ltr) : (tx (atomRight x.1) (litB x)).size ≤ 904 := by
  unfold tx
  split
  · rename_i h
    have := atomR_len h
    show (litB x).length ≤ 904
    unfold litB
    split
    · simp only [List.length_append, List.length_cons, List.length_nil]; omega
    · omega
  · exact Nat.zero_le _
theorem atomRight_cost {x : Atm} (h : atomRight x = true) : costA x ≤ 1048576 := by
  obtain ⟨k, a, b, ts, ns, bd, sc⟩ := x
  by_cases h0 : k = 1
  · obtain ⟨e1, e2, _, _, ha, hb⟩ := atom_one h0 h
    subst e1; subst e2
    exact sum_cost (right_cost ha) (right_cost hb) (Nat.zero_le _) (Nat.zero_le _) (Nat.zero_le _)
  · obtain ⟨_, e2, e3, h1, h2, h3, _, _, hr, _⟩ := atom_two h0 h
    subst e2; subst e3
    have hc : costTs ts ≤ 48 * ts.length := by
      have := costTs_map (fun t : {t : Tm // right t = true} => t.1) (fun t => right_cost t.2) (ts.attachWith _ hr)
      simpa using this
    exact sum_cost (by decide) (by decide) (by omega) (by omega) (by omega)
theorem litRd_cost (t : ByteArray) : costA (litRd t).1.1 ≤ 1048576 := by
  cases h : (litRd t).2 with
  | false =>
    have e : (litRd t).1 = (zA, false) := rd_zero' h
    rw [e]; decide
  | true => exact atomRight_cost (rd_ok h).1
theorem lit_tail {y : ByteArray} (h : (litRd y).2 = true) : tx (atomRight (litRd y).1.1) (litB (litRd y).1) = y := by
  obtain ⟨q1, q2⟩ := rd_ok h
  have q1 : atomRight (litRd y).1.1 = true := q1
  have q2 : litB (litRd y).1 = bl' y := q2
  rw [q1, tx_yes rfl, q2]; rfl
theorem litB_ne' {l : Ltr} (h : atomRight l.1 = true) : litB l ≠ [] := fun e => by
  unfold litB at e
  split at e
  · cases e
  · exact atomB_ne' h e
theorem mkB_ne {l : List UInt8} (h : l ≠ []) : ¬ mkB l = ByteArray.empty := fun e => h (congrArg bl' e)
/-- What was written is read back; nothing written, nothing read. -/
theorem back {α : Type} {R : α → Bool} {T : α → List UInt8} {z : α} (inj : ∀ {a b : α}, R a = true → R b = true → T a = T b → a = b) (ne : ∀ {a : α}, R a = true → T a ≠ []) (x : α) :
    (R x = true ∧ rd R T z (bl' (tx (R x) (T x))) = (x, true) ∧ (tx (R x) (T x)).toList.isEmpty = false) ∨ (rd R T z (bl' (tx (R x) (T x))) = (z, false) ∧ (tx (R x) (T x)).toList.isEmpty = true) := by
  cases h : R x with
  | true =>
    rw [tx_yes rfl, tl_empty]
    exact .inl ⟨rfl, rd_yes inj h rfl, decide_eq_false (mkB_ne (ne h))⟩
  | false =>
    have e : tx false (T x) = ByteArray.empty := rfl
    rw [e, tl_empty]
    exact .inr ⟨rd_no fun a h1 h2 => ne h1 h2, decide_eq_true rfl⟩
end Pl
namespace Cg
open Go Go.Proofs Pl
theorem rowS2 (a : ByteArray) : ∀ j, j < 1 → Is ([st a].getD j .any) (eS a j) := fun j hj => by
  obtain rfl : j = 0 := by omega
  exact Is_st.2 rfl
set_option maxHeartbeats 8000000 in
theorem g_tornA (b : List Int) (p : Int) (s : ByteArray) (h1 : Rd 137438953472 b p) (h2 : s.size ≤ 1000000) : GoalW Tryz.prog [K_pick, K_of] ([]) K_tornA.1 K_tornA.2 ((b, p, s)) := GoalW.of (vc_tornA b p s) (by
  simp (maxSteps := 2000000) [-List.getD_eq_getElem?_getD, -List.mem_cons, -Bool.forall_bool, -Bool.exists_bool, and_assoc, peta, tl_inj, ex_1, ex_2, ex_3, ex_4, ex_5, ex_6, ex_7, ex_8, ex_9, ey_2, ey_3, ey_4, ey_5, ey_6, ey_7, ey_8, ey_9]
  intro hne
  have hL : Is (AV.lit 8 1 (rowsCell [[st { data := #[] }], [st { data := #[32] }], [st { data := #[48] }], [st { data := #[45] }], [st { data := #[49] }], [st { data := #[60] }], [st { data := #[61] }], [st { data := #[40] }]]))
      (strs [⟨#[]⟩, ⟨#[32]⟩, ⟨#[48]⟩, ⟨#[45]⟩, ⟨#[49]⟩, ⟨#[60]⟩, ⟨#[61]⟩, ⟨#[40]⟩]) :=
    ((((((((LitR.nil.cons (rowS2 _)).cons (rowS2 _)).cons (rowS2 _)).cons (rowS2 _)).cons (rowS2 _)).cons (rowS2 _)).cons (rowS2 _)).cons (rowS2 _)).is
  have hT : ∀ t ∈ [(⟨#[]⟩ : ByteArray), ⟨#[32]⟩, ⟨#[48]⟩, ⟨#[45]⟩, ⟨#[49]⟩, ⟨#[60]⟩, ⟨#[61]⟩, ⟨#[40]⟩], t.size ≤ 1 := by decide
  have hsz : 0 < s.size := Nat.pos_of_ne_zero fun e => hne (ByteArray.ext (Array.eq_empty_of_size_eq_zero e))
  have g3 := h1.2.2.1
  have g4 := h1.2.2.2
  refine ⟨h1.to (by omega) (by omega), fun y y1 y2 y3 => ⟨h1.to (by omega) (by omega), fun k hk _ => ?_⟩⟩
  obtain ⟨k1, k2⟩ := hk (by omega)
  refine ⟨k1, by omega, b, p + 1 + 1, h1.to (by omega) (by omega), _, by simp, by simp, hL, rfl, rfl, fun t ht => ?_⟩
  have := hT t ht
  refine ⟨by omega, h1.to (by omega) (by omega), fun z z1 z2 => ?_⟩
  have hw : IntKind.i64.wrap (k + z) = k + z := wrap_small (by omega) (by omega)
  rw [hw]
  exact ⟨by omega, by omega, by omega, by omega, rfl⟩)
theorem k_tornA : SoundC Tryz.prog K_tornA.1 K_tornA.2 := sound_ofW hm ((CtxOK.nil.and k_of).and k_pick) (fun ((b, p, s) : TnY) => []) (by kernel_rfl) fun ((b, p, s) : TnY) hb => g_tornA b p s hb.1 hb.2
set_option maxHeartbeats 8000000 in
theorem g_l6LitSome (b : List Int) (h1 : Sz b) (h2 : Byt b) : GoalW Tryz.prog [K_l16Open, K_l4Sig, K_l6Some, K_pick] ([]) K_l6LitSome.1 K_l6LitSome.2 (b) := GoalW.of (vc_l6LitSome b) (by
  simp (maxSteps := 2000000) [-List.getD_eq_getElem?_getD, -List.mem_cons, -Bool.forall_bool, -Bool.exists_bool, and_assoc, peta, tl_inj, ex_1, ex_2, ex_3, ex_4, ex_5, ex_6, ex_7, ex_8, ex_9, ey_2, ey_3, ey_4, ey_5, ey_6, ey_7, ey_8, ey_9]
  exact ⟨h1, h2, fun y hr => ⟨hr.to (by omega) (by omega), fun g hg => ⟨hr.to (by omega) (by omega), hg, fun kd av ak bv bk ms ts bd sc q ha q1 q2 => ⟨hr.to (by omega) (by omega), fun _ _ _ => ha⟩⟩⟩⟩)
theorem k_l6LitSome : SoundC Tryz.prog K_l6LitSome.1 K_l6LitSome.2 := sound_ofW hm ((((CtxOK.nil.and k_pick).and k_l6Some).and k_l4Sig).and k_l16Open) (fun (b : List Int) => []) (by kernel_rfl) fun (b : List Int) hb => g_l6LitSome b hb.1 hb.2
set_option maxHeartbeats 8000000 in
theorem g_DrawLitText (b : List Int) (h1 : Sz b) (h2 : Byt b) : GoalW Tryz.prog [K_l6LitSome] ([]) K_DrawLitText.1 K_DrawLitText.2 (b) := GoalW.of (vc_DrawLitText b) (by
  simp (maxSteps := 2000000) [-List.getD_eq_getElem?_getD, -List.mem_cons, -Bool.forall_bool, -Bool.exists_bool, and_assoc, peta, tl_inj, ex_1, ex_2, ex_3, ex_4, ex_5, ex_6, ex_7, ex_8, ex_9, ey_2, ey_3, ey_4, ey_5, ey_6, ey_7, ey_8, ey_9]
  exact ⟨h1, h2⟩)
theorem k_DrawLitText : SoundC Tryz.prog K_DrawLitText.1 K_DrawLitText.2 := sound_ofW hm (CtxOK.nil.and k_l6LitSome) (fun (b : List Int) => []) (by kernel_rfl) fun (b : List Int) hb => g_DrawLitText b hb.1 hb.2
set_option maxHeartbeats 8000000 in
theorem g_DrawLitRead (b : List Int) (h1 : Sz b) (h2 : Byt b) : GoalW Tryz.prog [K_l16Open, K_l4Sig, K_l6Lit, K_sLitText, K_pick, K_tornA] ([]) K_DrawLitRead.1 K_DrawLitRead.2 (b) := GoalW.of (vc_DrawLitRead b) (by
  simp (maxSteps := 2000000) [-List.getD_eq_getElem?_getD, -List.mem_cons, -Bool.forall_bool, -Bool.exists_bool, and_assoc, peta, tl_inj, ex_1, ex_2, ex_3, ex_4, ex_5, ex_6, ex_7, ex_8, ex_9, ey_2, ey_3, ey_4, ey_5, ey_6, ey_7, ey_8, ey_9]
  refine ⟨h1, h2, fun y hr => ⟨hr.to (by omega) (by omega), fun g hg => ⟨hr.to (by omega) (by omega), hg, fun kd av ak bv bk ms ts bd sc no q ha q1 q2 => ⟨at_sm ha, hr.to (by omega) (by omega), fun z _ _ => ?_⟩⟩⟩⟩
  have := ltx_size ((kd, (av, ak), (bv, bk), ms, ts, bd, sc), no)
  have e4 : ({ data := #[110, 111, 116, 32] } : ByteArray).size = 4 := rfl
  dsimp only at this
  rw [e4]
  exact ⟨fun _ => ⟨by omega, hr.to (by omega) (by omega), by omega, fun a h => by omega⟩, fun _ => ⟨hr.to (by omega) (by omega), by omega, fun a h => by omega⟩⟩)
theorem k_DrawLitRead : SoundC Tryz.prog K_DrawLitRead.1 K_DrawLitRead.2 := sound_ofW hm ((((((CtxOK.nil.and k_tornA).and k_pick).and k_sLitText).and k_l6Lit).and k_l4Sig).and k_l16Open) (fun (b : List Int) => []) (by kernel_rfl) fun (b : List Int) hb => g_DrawLitRead b hb.1 hb.2
set_option maxHeartbeats 8000000 in
theorem g_yLitText (b c : List Int) (h1 : Byt b) (h2 : Byt c) : GoalW Tryz.prog [K_DrawLitText, K_iLitText, K_iLitRead, K_sLitText, K_iAtomSame, K_DrawLitRead, K_sLitRead] ([]) K_yLitText.1 K_yLitText.2 ((b, c)) := GoalW.of (vc_yLitText b c) (by
  simp (maxSteps := 2000000) [-List.getD_eq_getElem?_getD, -List.mem_cons, -Bool.forall_bool, -Bool.exists_bool, and_assoc, peta, tl_inj, ex_1, ex_2, ex_3, ex_4, ex_5, ex_6, ex_7, ex_8, ex_9, ey_2, ey_3, ey_4, ey_5, ey_6, ey_7, ey_8, ey_9]
  intro l1 l2
  have hsame : ∀ t, litReadI t = litReadS t := fun t => (litReadI_eq t).trans (litReadS_eq t).symm
  have hI := litReadI_eq
  have fin : c.length ≤ 4294967296 ∧ Byt c ∧ ∀ (y : ByteArray), y.size ≤ 100000 → y.size ≤ 1048576 ∧ ((litReadI y).snd = (litReadS y).snd → ((litReadI y).fst.snd = (litReadS y).fst.snd → costA (litReadI y).fst.fst ≤ 1048576 ∧
      ((litReadI y).fst.fst = (litReadS y).fst.fst → (litReadI y).snd = true → costA (litReadI y).fst.fst ≤ 1048576 ∧ tx (atomRight (litReadI y).fst.fst) (litB (litReadI y).fst) = y) ∧ (litReadI y).fst.fst = (litReadS y).fst.fst) ∧ (litReadI y).fst.snd = (litReadS y).fst.snd) ∧ (litReadI y).snd = (litReadS y).snd :=
    ⟨by omega, h2, fun y hy => ⟨by omega, fun _ => ⟨fun _ => ⟨by rw [hI]; exact litRd_cost y, fun _ h => ⟨by rw [hI]; exact litRd_cost y, by rw [hI] at h ⊢; exact lit_tail h⟩, by rw [hsame y]⟩, by rw [hsame y]⟩, by rw [hsame y]⟩⟩
  refine ⟨by omega, h1, fun kd av ak bv bk ms ts bd sc no ha => ?_⟩
  have hz := ltx_size ((kd, (av, ak), (bv, bk), ms, ts, bd, sc), no)
  dsimp only at hz
  refine ⟨at_sm ha, by omega, at_sm ha, ?_⟩
  rcases back (R := fun l : Ltr => atomRight l.1) (T := litB) (z := (zA, false)) litB_inj' litB_ne' (((kd, (av, ak), (bv, bk), ms, ts, bd, sc), no) : Ltr) with ⟨_, e, e2⟩ | ⟨e, e2⟩
  · dsimp only at e e2
    have e := (hI _).trans e
    rw [e, e2]
    exact ⟨by simp, fun _ => ⟨fun _ => ⟨rfl, fun _ => ⟨at_sm ha, rfl, fun _ => fin⟩⟩, fun h => by cases h⟩⟩
  · dsimp only at e e2
    have e := (hI _).trans e
    rw [e, e2]
    exact ⟨by simp, fun _ => ⟨fun h => by (cases h), fun _ => fin⟩⟩)
theorem k_yLitText : SoundC Tryz.prog K_yLitText.1 K_yLitText.2 := sound_ofW hm (((((((CtxOK.nil.and k_sLitRead).and k_DrawLitRead).and k_iAtomSame).and k_sLitText).and k_iLitRead).and k_iLitText).and k_DrawLitText) (fun ((b, c) : BbY) => []) (by kernel_rfl) fun ((b, c) : BbY) hb => g_yLitText b c hb.1 hb.2
end Cg

/-
  The listed tables and errors, and the shape of the world: what the row's condition gives the machine. No condition.
-/
set_option linter.unusedVariables false
namespace Go.Proofs.YtibghpfojnhfaaaGreatDoor
open Go
def laidL : List (String × DataW Unit) := [("math/bits.deBruijn32tab", Rows.laid_math_bits_deBruijn32tab), ("math/bits.deBruijn64tab", Rows.laid_math_bits_deBruijn64tab), ("internal/strconv.uint64pow10", Rows.laid_internal_strconv_uint64pow10), ("unicode/utf8.acceptRanges", Rows.laid_unicode_utf8_acceptRanges), ("strconv.ErrRange", Rows.laid_strconv_ErrRange), ("strconv.ErrSyntax", Rows.laid_strconv_ErrSyntax), ("unicode/utf8.first", Rows.laid_unicode_utf8_first)]
theorem door_met (os : Os) (args : Array Value) : laidMetH Tryz.prog laidL ((World.laidAll Tryz.prog os laidL).forCall (fun _ _ => 0) ⟨#[], args, []⟩).memory := by
  rw [MakeChecks.laidMetH_plain _ _ _ (by kernel_rfl)]
  exact laidMet_laidAll _ (by kernel_rfl) (by kernel_rfl)
theorem plain_laid {W : World} (h : laidMetH Tryz.prog laidL W) : laidMet Tryz.prog laidL W := by
  rw [MakeChecks.laidMetH_plain _ _ _ (by kernel_rfl)] at h
  exact h
theorem tab_laid {W : World} (h : laidMetH Tryz.prog laidL W) : Go.Lib.TabIs Tryz.prog W "internal/strconv.uint64pow10" .u64 Go.Lib.pow10Tab := by
  have h2 := laidMet.filter (fun x => x.1 == "internal/strconv.uint64pow10") (plain_laid h)
  have h3 : laidMet Tryz.prog (("internal/strconv.uint64pow10", Go.Lib.tabData .u64 Go.Lib.pow10Tab) :: []) W := by
    have e : (laidL.filter fun x => x.1 == "internal/strconv.uint64pow10") = ("internal/strconv.uint64pow10", Go.Lib.tabData .u64 Go.Lib.pow10Tab) :: [] := by rfl
    rw [e] at h2
    exact h2
  exact Go.Lib.tabIs_of_head (show Tryz.prog.globalNamed "internal/strconv.uint64pow10" = some 3 by kernel_rfl) (t := 193) (by kernel_rfl) Tryz.underlying193 Tryz.underlying175 (by kernel_rfl) (by kernel_rfl) h3
theorem star : "*" ++ "errors.errorString" = "*errors.errorString" := by decide
theorem rowES (u : TypeId) (h : Tryz.prog.typeName? 3 u = some "*errors.errorString") : u = 200 :=
  typeName_ptr_named (nm := "errors.errorString") (by rw [star]; kernel_rfl) (by kernel_rfl) (by decide) u (by rw [star]; exact h)
theorem err_var {W : World} (n : String) (g : Nat) (text : List UInt8) (h : laidMet Tryz.prog ((n, .iface "*errors.errorString" (.ptr (.agg [.lit (.string text)]))) :: []) W) (hg : Tryz.prog.globalNamed n = some g) (ht : (Tryz.prog.globals[g]?).map (·.type) = some 113) :
    ∃ c T fr, W.heap[g]? = some (.cells c T fr) ∧ ∃ ev, c[0]? = some ev ∧ (ev = .nilIface ∨ ∃ te pe, ev = .iface te pe) := by
  obtain ⟨a, s, h1, -, -, -⟩ := laid_sentinel h hg ht Tryz.underlying113 rowES Tryz.underlying200 Tryz.underlying202 rfl rfl Tryz.underlying9 (by kernel_rfl) (by kernel_rfl)
  unfold World.var? at h1
  rw [hg, Option.bind_some] at h1
  split at h1
  · rename_i c T fr hc
    have e := Option.some.inj h1
    subst e
    exact ⟨_, T, fr, hc, _, rfl, .inr ⟨_, _, rfl⟩⟩
  · cases h1
theorem gl_laid {W : World} (h : laidMetH Tryz.prog laidL W) (hsh : W.ShapedOpen Tryz.prog) : Cg.Gl (fun b => b < W.heap.size) W := fun g hg => by
  have lt : ∀ {g : Nat} {c : Array Value} {T : TypeId} {fr : Nat × Nat}, W.heap[g]? = some (.cells c T fr) → g < W.heap.size := fun h => (Array.getElem?_eq_some_iff.1 h).1
  unfold Cg.globs at hg
  rcases List.mem_cons.1 hg with rfl | hg
  · have ht := tab_laid h
    unfold Go.Lib.TabIs World.var? at ht
    rw [show Tryz.prog.globalNamed "internal/strconv.uint64pow10" = some 3 by kernel_rfl, Option.bind_some] at ht
    dsimp only
    split at ht
    · rename_i c T fr hc
      refine ⟨lt hc, c, T, fr, hc, ?_⟩
      rw [Option.some.inj ht]
      unfold Go.Lib.pow10Tab
      rw [List.map_map]
      rfl
    · cases ht
  rcases List.mem_cons.1 hg with rfl | hg
  · obtain ⟨m, hm⟩ := cell_of_shapedOpen_int (g := 0) (t := 3) (zero := #[.int .i64 0]) hsh (of_decide_eq_true (by kernel_rfl)) (by kernel_rfl) rfl (by kernel_rfl) (by kernel_rfl) Tryz.underlying3
    dsimp only
    unfold World.cell? at hm
    split at hm
    · rename_i c T fr hc
      refine ⟨lt hc, c, T, fr, hc, m, ?_⟩
      simpa using hm
    · cases hm
  rcases List.mem_cons.1 hg with rfl | hg
  · have h2 := laidMet.filter (fun x => x.1 == "strconv.ErrSyntax") (plain_laid h)
    have e : (laidL.filter fun x => x.1 == "strconv.ErrSyntax") = ("strconv.ErrSyntax", Rows.laid_strconv_ErrSyntax) :: [] := by rfl
    rw [e] at h2
    obtain ⟨c, T, fr, hc, h4⟩ := err_var "strconv.ErrSyntax" 1 _ h2 (by kernel_rfl) (by kernel_rfl)
    exact ⟨lt hc, c, T, fr, hc, h4⟩
  rcases List.mem_cons.1 hg with rfl | hg
  · have h2 := laidMet.filter (fun x => x.1 == "strconv.ErrRange") (plain_laid h)
    have e : (laidL.filter fun x => x.1 == "strconv.ErrRange") = ("strconv.ErrRange", Rows.laid_strconv_ErrRange) :: [] := by rfl
    rw [e] at h2
    obtain ⟨c, T, fr, hc, h4⟩ := err_var "strconv.ErrRange" 2 _ h2 (by kernel_rfl) (by kernel_rfl)
    exact ⟨lt hc, c, T, fr, hc, h4⟩
  · cases hg
/-- The wrap with a condition on the world, that hands on the world's shape. -/
theorem handed_and_shaped {H : Type} {enc : TypeId × Value → H} {a : Assume} {C : Checked} {os : Os} {f : FuncId} {fn : Func} {s : ChangeSpec} {conds : List PathCond} {apart fresh handsOn again : Bool} {X : World → Array Value → Prop}
    (hX : ∀ (w w' : World) (args : Array Value), w.heap = w'.heap → X w args → X w' args)
    (own : ownKnob C.prog.godebug = none) (started : os.Started) (noInit : C.prog.inits.idxOf? f = none) (hfn : C.prog.funcs[f]? = some fn)
    (witness : ∃ (w : World) (tape : Tape) (i : Input), w.os = os ∧ (w.forCall tape i).Shaped C.prog ∧ i.vars = [] ∧ Input.okWide C.prog (w.forCall tape i) .any w.heap.size f i ∧
      ((s.pre enc C.prog fn conds apart (w.forCall tape i).memory i.args ∧ X (w.forCall tape i).memory i.args) ∧ sizedMet enc C.prog fn (OpenSpec.ofChange s) apart (w.forCall tape i).memory i.args) ∧ a.holds C.prog (lone (Frame.enter C.prog f i.args .normal) [] (w.forCall tape i)))
    (contract : ∀ (W : World) (base : Nat) (args : Array Value) (ds gs : List (DataW H)) (before : List MemPlace),
      (∀ (j : Nat) t v, fn.params[j]? = some t → args[j]? = some v → Value.okWide C.prog W .any base t v) →
      DataW.Whole enc C.prog fn.params.toList s.vars apart W args.toList ds gs before →
      conds.all (PathCond.test C.prog ⟨fn.params.toList, ds, s.plain.varTypes C.prog, gs⟩) = true → X W args → W.ShapedOpen C.prog →
      Calls C.prog f args W fun e W' => ∃ v, e = .returned v ∧ s.post enc C.prog fn apart fresh handsOn again W args v W') :
    ReturnsInHanded a C os f .any (fun w args => (s.pre enc C.prog fn conds apart w args ∧ X w args) ∧ sizedMet enc C.prog fn (OpenSpec.ofChange s) apart w args) (s.post enc C.prog fn apart fresh handsOn again) := by
  refine returnsInHanded_of_calls own started noInit witness ?_
  intro w tape i _ hsh _ hok hpre hholds
  obtain ⟨_, _, _, fn', hfn', _, _, _, _, hval⟩ := hok
  have e : fn' = fn := Option.some.inj (hfn'.symm.trans hfn)
  subst e
  obtain ⟨⟨⟨ds, gs, before, hw, hc⟩, hx⟩, hz⟩ := hpre
  have hw' := DataW.Whole.of_heap (w' := w.forCall tape i) (by rfl) hw
  refine (contract (w.forCall tape i) w.heap.size i.args ds gs before hval hw' hc (hX _ _ _ (by rfl) hx) hsh).mono fun e W' ⟨v, he, hp⟩ => ?_
  subst he
  exact ChangeSpec.post_blind hp
end Go.Proofs.YtibghpfojnhfaaaGreatDoor
