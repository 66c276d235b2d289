/-
  What the law leans on, part 4. No condition.
-/
import Derived.WalkKit
import Derived.BigCall
import Derived.Test.YtibghpfojnhfaaaGreatDoorProg
import Derived.Lib.LaidTab
import Derived.LaidSub
import Derived.LaidMore
import Derived.Lay
import Derived.MakeChecks
import Derived.Handed
import Derived.Stop.LaidErr
import Derived.Shelf.Vars
import Derived.LaidLaws
import Derived.Test.YtibghpfojnhfaaaGreatDoorRows
import Derived.Test.YtibghpfojnhfaaaGreatDoorFnModelTextB1
import Derived.Test.YtibghpfojnhfaaaGreatDoorFnModelTextB2
import Derived.Test.YtibghpfojnhfaaaGreatDoorFnModelTextB3
/-
  The codes' contracts: drawn models. No condition.
-/
set_option linter.unusedVariables false
set_option linter.unusedSimpArgs false
set_option maxRecDepth 100000
namespace Cg
open Go Go.Proofs Pl
theorem k_rat : SoundC Tryz.prog K_rat.1 K_rat.2 := sound_of hm (CtxOK.nil.and k_num) (fun _ => []) (by kernel_rfl) fun ((b, p) : List Int × Int) hb => (by
  replace hb : Rd 549755813888 b p := hb
  rw [← vc_rat b p]
  simp [-List.getD_eq_getElem?_getD, -List.mem_cons, -Bool.forall_bool, -Bool.exists_bool, and_assoc, peta, tl_inj, ex_1, ex_2, ex_3, ex_4, ex_5, ex_6, ex_7, ex_8, ex_9, ey_2, ey_3, ey_4, ey_5, ey_6, ey_7, ey_8, ey_9]
  have g3 := hb.2.2.1
  have g4 := hb.2.2.2
  exact ⟨hb.to (by omega) (by omega), fun y _ => ⟨hb.to (by omega) (by omega), fun z _ => by omega⟩⟩)
theorem k_RatOfP : SoundC Tryz.prog K_RatOfP.1 K_RatOfP.2 := sound_of hm ((CtxOK.nil.and k_l1Least).and k_l1Abs) (fun _ => []) (by kernel_rfl) fun ((n, d) : Int × Int) hb => (by
  obtain ⟨h1, h2, h3⟩ : n.natAbs ≤ 1000000000 ∧ 1 ≤ d ∧ d ≤ 1000000000 := hb
  rw [← vc_RatOfP n d]
  simp [-List.getD_eq_getElem?_getD, -List.mem_cons, -Bool.forall_bool, -Bool.exists_bool, and_assoc, peta, tl_inj, ex_1, ex_2, ex_3, ex_4, ex_5, ex_6, ex_7, ex_8, ex_9, ey_2, ey_3, ey_4, ey_5, ey_6, ey_7, ey_8, ey_9]
  have e1 : abs1 n ≤ 1000000000 := by unfold abs1; split <;> (try split) <;> omega
  have e2 : abs1 d ≤ 1000000000 := by unfold abs1; split <;> (try split) <;> omega
  exact ⟨fun h => absurd h (by omega), fun _ => ⟨fun h => absurd h (by omega), fun _ => ⟨fun h => absurd h (by omega), fun _ => ⟨fun h => absurd h (by omega), fun _ => ⟨by omega, h2, by omega⟩⟩⟩⟩⟩)
theorem k_l7Value : SoundC Tryz.prog K_l7Value.1 K_l7Value.2 := sound_of hm (((CtxOK.nil.and k_RatOfP).and k_num).and k_pick) (fun _ => []) (by kernel_rfl) fun ((b, p, s) : List Int × Int × Int) hb => (by
  replace hb : Rd 549755813888 b p := hb
  rw [← vc_l7Value b p s]
  simp [-List.getD_eq_getElem?_getD, -List.mem_cons, -Bool.forall_bool, -Bool.exists_bool, and_assoc, peta, tl_inj, ex_1, ex_2, ex_3, ex_4, ex_5, ex_6, ex_7, ex_8, ex_9, ey_2, ey_3, ey_4, ey_5, ey_6, ey_7, ey_8, ey_9]
  have g3 := hb.2.2.1
  have g4 := hb.2.2.2
  refine ⟨fun _ => ⟨hb.to (by omega) (by omega), fun _ _ _ => by omega⟩, fun _ => ⟨hb.to (by omega) (by omega), fun y hy => ⟨hb.to (by omega) (by omega), fun z hz => ?_⟩⟩⟩
  simp at hy hz
  exact ⟨by omega, by omega, by omega, fun _ => ⟨by omega, by omega⟩, fun _ => ⟨by omega, by omega⟩⟩)
theorem IsX_eR (x : Rw) (j : Nat) (hj : j < 4) : IsX (eR x j) (eR x j) := by
  match j, hj with
  | 0, _ => exact IsX_v _
  | 1, _ => exact ⟨rfl, rfl, fun i hi j hj => EncN.eQ.self _ hj⟩
  | 2, _ => exact IsX_v _
  | 3, _ => exact IsX_v _
@[simp] theorem xrR_self {l : List Rw} : IsO (xrR l) (xrR l) := ⟨rfl, rfl, fun i hi j hj => IsX_eR _ j hj⟩
theorem _root_.Pl.MdB.mono {n k n' k' : Nat} {s : Mdl} (h : MdB n k s) (h1 : n ≤ n') (h2 : k ≤ k') : MdB n' k' s := ⟨Nat.le_trans h.1 h1, fun x hx => ⟨(h.2 x hx).1, Nat.le_trans (h.2 x hx).2 h2⟩⟩
theorem _root_.Pl.MdB.set {n k : Nat} {s : Mdl} (h : MdB n k s) {i : Nat} {x : Rw} (hx : x.1.size ≤ 10 ∧ x.2.1.length ≤ k) : MdB n k (s.set i x) := ⟨by simpa using h.1, mem_set_imp h.2 hx⟩
theorem _root_.Pl.MdB.push {n k : Nat} {s : Mdl} (h : MdB n k s) {x : Rw} (hn : s.length < n) (hx : x.1.size ≤ 10 ∧ x.2.1.length ≤ k) : MdB n k (s ++ [x]) := ⟨by simp; omega, mem_push_imp h.2 hx⟩
theorem names4 : ∀ y ∈ [(⟨#[]⟩ : ByteArray), ⟨#[65]⟩, ⟨#[122, 122]⟩], y.size ≤ 10 := by decide
theorem k_l7Some0 (k_l7Any : SoundC Tryz.prog K_l7Any.1 K_l7Any.2) : SoundC Tryz.prog K_l7Some.1 K_l7Some.2 := sound_of hm ((((CtxOK.nil.and k_of).and k_rat).and k_pick).and k_l7Any) (fun _ => []) (by kernel_rfl) fun ((b, p, s) : List Int × Int × Pl.Sig) hb => (by
  obtain ⟨h1, h2⟩ : Rd 68719476736 b p ∧ SgB 5 2 s := hb
  rw [← vc_l7Some b p s]
  simp [-List.getD_eq_getElem?_getD, -List.mem_cons, -Bool.forall_bool, -Bool.exists_bool, and_assoc, peta, tl_inj, ex_1, ex_2, ex_3, ex_4, ex_5, ex_6, ex_7, ex_8, ex_9, ey_2, ey_3, ey_4, ey_5, ey_6, ey_7, ey_8, ey_9]
  have g3 := h1.2.2.1
  have g4 := h1.2.2.2
  refine ⟨h1.to (by omega) (by omega), h2, fun m q hm q1 q2 => ?_⟩
  have hB : MdB 16 3 m := hm.mono (by decide) (by decide)
  obtain ⟨m1, m2⟩ : m.length ≤ 15 ∧ ∀ x ∈ m, x.1.size ≤ 10 ∧ x.2.1.length ≤ 2 := id hm
  refine ⟨fun _ => ⟨hB, by omega, by omega⟩, fun hne => ⟨h1.to (by omega) (by omega), fun y y1 y2 => ⟨fun _ => ⟨hB, by omega, by omega⟩, fun _ => ⟨h1.to (by omega) (by omega), fun k hk _ => ⟨h1.to (by omega) (by omega), fun z z1 z2 => ?_⟩⟩⟩⟩⟩
  have h0 : 0 < m.length := List.length_pos_iff.2 hne
  obtain ⟨k1, k2⟩ := hk (by omega)
  have hkl : k.toNat < m.length := by omega
  have h3 := m2 _ (getD_mem dR hkl)
  have h30 := m2 _ (getD_mem dR h0)
  have hsl : ∀ v : Rw, (m.set k.toNat v).length = m.length := fun v => by simp
  refine ⟨fun _ => ⟨h1.to (by omega) (by omega), fun v w => ?_⟩, fun _ => ⟨fun _ => ?_, fun _ => ⟨fun _ => ?_, fun _ => ⟨fun _ => ⟨h1.to (by omega) (by omega), fun nm hnm => ?_⟩, fun _ => ?_⟩⟩⟩⟩
  · exact ⟨by omega, by omega, by omega, _, hB.set (x := ((m.getD k.toNat dR).1, (m.getD k.toNat dR).2.1, v, w)) ⟨h3.1, Nat.le_trans h3.2 (by decide)⟩, by omega, by omega, Is_sl_of (hsl _).symm (IsR_store EncN.eR fun j hj => by
      match j, hj with
      | 0, _ => exact EncN.eR.self _ (j := 0) (by decide)
      | 1, _ => exact EncN.eR.self _ (j := 1) (by decide)
      | 2, _ => exact Is_i64.2 rfl
      | 3, _ => exact Is_i64.2 rfl)⟩
  · exact ⟨by omega, by omega, by omega, by omega, _, hB.push (x := m.getD k.toNat dR) (by omega) ⟨h3.1, by omega⟩, by omega, by omega, ((Rds.cel EncN.eR m).join (Rds.row (IsR_row EncN.eR (Is_rowR (Is_rats.2 rfl))))).is⟩
  · exact ⟨by omega, by omega, by omega, by omega, by omega, by omega, by omega, _, hB.set (x := ((m.getD k.toNat dR).1, (m.getD k.toNat dR).2.1 ++ [(0, 1)], (m.getD k.toNat dR).2.2)) ⟨h3.1, by dsimp only; rw [List.length_append, List.length_singleton]; omega⟩, by omega, by omega, Is_sl_of (hsl _).symm (IsR_store EncN.eR fun j hj => by
      match j, hj with
      | 0, _ => exact EncN.eR.self _ (j := 0) (by decide)
      | 1, _ => exact ((Rds.cel EncN.eQ (m.getD k.toNat dR).2.1).join (Rds.row (d := dQ) (v := ((0, 1) : Rt)) (r := [i64 0, i64 1]) (IsR_row EncN.eQ fun j hj => by
          match j, hj with
          | 0, _ => exact Is_i64.2 rfl
          | 1, _ => exact Is_i64.2 rfl))).is
      | 2, _ => exact EncN.eR.self _ (j := 2) (by decide)
      | 3, _ => exact EncN.eR.self _ (j := 3) (by decide))⟩
  · exact ⟨by omega, by omega, by omega, _, hB.set (x := (nm, (m.getD k.toNat dR).2)) ⟨names4 nm hnm, Nat.le_trans h3.2 (by decide)⟩, by omega, by omega, Is_sl_of (hsl _).symm (IsR_store EncN.eR fun j hj => by
      match j, hj with
      | 0, _ => exact Is_st.2 rfl
      | 1, _ => exact EncN.eR.self _ (j := 1) (by decide)
      | 2, _ => exact EncN.eR.self _ (j := 2) (by decide)
      | 3, _ => exact EncN.eR.self _ (j := 3) (by decide))⟩
  · refine ⟨by omega, by omega, by omega, by omega, by omega, by omega, by omega, by omega, (m.set k.toNat (m.getD 0 dR)).set 0 (m.getD k.toNat dR), (hB.set ⟨h30.1, by omega⟩).set ⟨h3.1, by omega⟩, by omega, by omega, ?_⟩
    exact Is_sl_of (by simp) (IsR_storeG (IsR_storeG (IsR_cel EncN.eR) rfl (Is_rowR (Is_rats.2 rfl))) rfl (Is_rowR (Is_rats.2 rfl))))
end Cg

/-
  The codes' contracts: texts that a builder gathers. No condition.
-/
set_option linter.unusedVariables false
set_option linter.unusedSimpArgs false
set_option maxRecDepth 100000
namespace Cg
open Go Go.Proofs Go.RowKit Pl
theorem isB_ext {T e : TypeId} {B b : Nat} {bs : List Value} {w w' : World} (h : Lib.IsBuilder T e B b bs w) (hx : Ext w w') : Lib.IsBuilder T e B b bs w' := by
  have go : ∀ p, Lib.BuilderAt T e B b p bs w → Lib.BuilderAt T e B b p bs w' := fun p ⟨hB, v, hb, hown, hne⟩ => by
    refine ⟨hB, v, ?_, ?_, hne⟩
    · rw [hx.block b (Array.getElem?_eq_some_iff.1 hb).1]; exact hb
    · refine ⟨hown.1, ?_⟩
      rcases hown.2 with hn | ⟨g, cap, cur, rfl, h1, h2, rest⟩
      · exact .inl hn
      · exact .inr ⟨g, cap, cur, rfl, h1, by rw [hx.block g (Array.getElem?_eq_some_iff.1 h2).1]; exact h2, rest⟩
  rcases h with h | h
  · exact .inl (go _ h)
  · exact .inr (go _ h)
theorem Below.gl {S : Nat → Prop} {w w' : World} {B : Nat} (h : Gl S w) (hin : ∀ b, S b → b < B) (hb : Below B w w') : Gl S w' := h.mono (fun _ h => h) fun b hs => hb.block b (hin b hs)
theorem Below.rel {S : Nat → Prop} {w w' : World} {B : Nat} {a : AV} {y : Value} (h : RelI S w a y) (hin : ∀ b, S b → b < B) (hb : Below B w w') : RelI S w' a y := RelI_mono (fun _ h => h) (fun b hs => hb.block b (hin b hs)) a y h
theorem PureAt.text {f : FuncId} {args : List AV} {b : ByteArray} (h : PureAt Tryz.prog f args (st b)) {S : Nat → Prop} {W : World} {vals : List Value} (hin : ∀ b, S b → b < W.heap.size) (hg : Gl S W) (hr : RelL S mu0 W args vals) :
    Calls Tryz.prog f vals.toArray W fun e W' => e = .returned (.string b) ∧ Ext W W' :=
  (h S W vals hin hg hr).mono fun e W' he => by
    obtain ⟨y, S', rfl, h1, _, _, _, h5⟩ := he
    exact ⟨by rw [show y = .string b from h5], h1⟩
theorem PureAt.bool {f : FuncId} {args : List AV} {b : Bool} (h : PureAt Tryz.prog f args (bl b)) {S : Nat → Prop} {W : World} {vals : List Value} (hin : ∀ b, S b → b < W.heap.size) (hg : Gl S W) (hr : RelL S mu0 W args vals) :
    Calls Tryz.prog f vals.toArray W fun e W' => e = .returned (.bool b) ∧ Ext W W' :=
  (h S W vals hin hg hr).mono fun e W' he => by
    obtain ⟨y, S', rfl, h1, _, _, _, h5⟩ := he
    exact ⟨by rw [show y = .bool b from h5], h1⟩
set_option maxHeartbeats 1000000 in
theorem Below.ext {w w' : World} (h : Below w.heap.size w w') : Ext w w' := ⟨h.os, h.tape, h.output, h.size, h.block⟩
theorem Ext.alloc (w : World) (o : Obj) : Ext w (w.alloc o) := Below.ext ((Below.refl _ w).alloc (Nat.le_refl _) o)
theorem Ext.bel {w w' : World} {B : Nat} (h : Ext w w') (hB : B ≤ w.heap.size) : Below B w w' := ⟨h.os, h.tape, h.output, h.size, fun b hb => h.block b (Nat.lt_of_lt_of_le hb hB)⟩
set_option maxHeartbeats 1000000 in
theorem w_modelText (s : Mdl) (hso : mRight s = true) (S : Nat → Prop) (w : World) (v : Value) (hin : ∀ b, S b → b < w.heap.size) (hgl : Gl S w) (hr : RelI S w (mrows s) v) :
    Calls Tryz.prog 66 #[.agg #[v]] w fun e w' => e = .returned (.string (mkB (modelB s))) ∧ Ext w w' := by
  have hr0 := hr
  obtain ⟨a, cap, rfl, hcap, hc⟩ := hr
  have hx01 : Ext w (w.alloc (.cells #[.slice a s.length cap] 47)) := Ext.alloc _ _
  have hlt : w.heap.size < (w.alloc (.cells #[.slice a s.length cap] 47)).heap.size := (Array.getElem?_eq_some_iff.1 (heap_alloc_new w (.cells #[.slice a s.length cap] 47))).1
  have hbox : ∀ o, ((w.alloc (.cells #[.slice a s.length cap] 47)).alloc o).cell? ⟨w.heap.size, 0, none⟩ = some (.slice a s.length cap) := fun o => by
    unfold World.cell?
    rw [heap_alloc_old (w.alloc (.cells #[.slice a s.length cap] 47)) o hlt, heap_alloc_new]
    rfl
  have hB0 : w.heap.size ≤ (w.alloc (.cells #[.slice a s.length cap] 47)).heap.size := hx01.size
  go_enter Tryz.func66, Tryz.ntmps66
  have hsz0 : (w.alloc (.cells #[.slice a s.length cap] 47)).heap.size = w.heap.size + 1 := Array.size_push _
  go_wp2
  go_loopw [9] (fun v9 wr => ∃ k : Nat, v9 = .int .i64 (k : Int) ∧ k ≤ s.length ∧ Lib.IsBuilder 133 5 (w.heap.size + 1) (w.heap.size + 1) (Lib.byteCells (modelB (s.take k))) wr ∧ Below (w.heap.size + 1) (w.alloc (.cells #[.slice a s.length cap] 47)) wr) (fun v9 wr => match v9 with | .int _ k => s.length - k.toNat | _ => 0)
  case atStart =>
    refine ⟨0, rfl, Nat.zero_le _, by have := Lib.fresh_isBuilder 133 5 (w.alloc (.cells #[.slice a s.length cap] 47)); rw [hsz0] at this; exact this, (Below.refl _ (w.alloc (.cells #[.slice a s.length cap] 47))).alloc (by rw [hsz0]; exact Nat.le_refl _) _⟩
  case round =>
    obtain ⟨k, rfl, hk, hI, hbw⟩ := hrel
    have hB1 : w.heap.size + 1 ≤ wr.heap.size := Nat.le_trans (Nat.le_of_eq hsz0.symm) hbw.size
    by_cases hp : k < s.length
    · obtain ⟨b, off, rfl, hb, c, T, fr, hh, hel⟩ := hc.resolve_left (by omega)
      obtain ⟨x0, hx00, hr0'⟩ := hel k hp 0 (by omega)
      obtain ⟨x1, hx11, hr1'⟩ := hel k hp 1 (by omega)
      obtain ⟨x2, hx22, hr2'⟩ := hel k hp 2 (by omega)
      obtain ⟨x3, hx33, hr3'⟩ := hel k hp 3 (by omega)
      have hcw : ∀ j x, c[off + k * 4 + j]? = some x → wr.cell? ⟨b, off + k * 4 + j, none⟩ = some x := fun j x hx => by
        unfold World.cell?
        rw [hbw.block b (Nat.lt_succ_of_lt (hin b hb)), hx01.block b (hin b hb), hh]
        exact hx
      have hc0 := hcw 0 x0 hx00
      have hc1 := hcw 1 x1 hx11
      have hc2 := hcw 2 x2 hx22
      have hc3 := hcw 3 x3 hx33
      rw [Nat.add_zero] at hc0
      have hy : rowOk (s.getD k dR) = true := (model_facts hso).2 _ (getD_mem dR hp)
      have hlb := modelB_len hso k
      have hl40 := (model_facts hso).1
      have e : modelB (s.take (k + 1)) = modelB (s.take k) ++ (rwB (s.getD k dR) ++ [10]) := catB_step dR lineR hp
      have hsb := rwB_len hy
      have hw64 : wrap64 ((k : Int) + 1) = (k : Int) + 1 := (by unfold wrap64; omega)
      obtain ⟨y, hyy⟩ : ∃ y, y = s.getD k dR := ⟨_, rfl⟩
      rw [← hyy] at hy e hsb hr0' hr1' hr2' hr3'
      have q0 : x0 = .string y.1 := hr0'.1
      have q2 : x2 = .int .i64 y.2.2.1 := hr2'.1
      have q3 : x3 = .int .i64 y.2.2.2 := hr3'.1
      have hr1'' : RelI S w (rats y.2.1) x1 := hr1'
      obtain ⟨a1, cap1, q1, -⟩ := hr1'
      subst q0; subst q1; subst q2; subst q3
      have hbw0 : Below w.heap.size w wr := ⟨hbw.os.trans hx01.os, hbw.tape.trans hx01.tape, hbw.output.trans hx01.output, Nat.le_trans hx01.size hbw.size, fun b hb => (hbw.block b (Nat.lt_succ_of_lt hb)).trans (hx01.block b hb)⟩
      obtain ⟨WA, hWA⟩ : ∃ WA, WA = wr.alloc (.cells #[.string y.1, .slice a1 y.2.1.length cap1, .int .i64 y.2.2.1, .int .i64 y.2.2.2] 85) := ⟨_, rfl⟩
      have hxA : Ext wr WA := by rw [hWA]; exact Ext.alloc _ _
      have hbA : Below w.heap.size w WA := hbw0.trans (hxA.bel hbw0.size)
      have hcall : Calls Tryz.prog 115 #[.agg #[.string y.1, .slice a1 y.2.1.length cap1, .int .i64 y.2.2.1, .int .i64 y.2.2.2]] WA fun e W' => e = .returned (.string (mkB (rwB y))) ∧ Ext WA W' :=
        PureAt.text (k_rowtext.2 y hy) (vals := [.agg #[.string y.1, .slice a1 y.2.1.length cap1, .int .i64 y.2.2.1, .int .i64 y.2.2.2]]) (fun b hs => Nat.lt_of_lt_of_le (hin b hs) hbA.size) (Below.gl hgl hin hbA)
          ⟨_, [], rfl, ⟨_, rfl, _, _, rfl, rfl, _, _, rfl, Below.rel hr1'' hin hbA, _, _, rfl, rfl, _, [], rfl, rfl, rfl⟩, rfl⟩
      rw [hWA] at hcall hxA
      obtain ⟨tx, htx⟩ : ∃ tx, tx = mkB (rwB y) := ⟨_, rfl⟩
      rw [← htx] at hcall
      have hsz1 : tx.size ≤ 136 := by rw [htx]; exact hsb
      have hsz2 : ¬ tx.size + ByteArray.size ⟨#[10]⟩ > 9223372036854775807 := by
        show ¬ tx.size + 1 > _
        omega
      have hsz3 : (Lib.byteCells (modelB (s.take k))).length + (tx ++ ⟨#[10]⟩).size ≤ 140737488355328 := by
        rw [Lib.byteCells_length, ByteArray.size_append]
        show _ + (tx.size + 1) ≤ _
        omega
      have e2 : modelB (s.take (k + 1)) = modelB (s.take k) ++ (tx ++ ⟨#[10]⟩ : ByteArray).data.toList := by rw [e, htx, lit1, bapp]; rfl
      clear hel hr0' hr2' hcw hx00 hx11 hx22 hx33 hr3' hyy e htx hsb hr1'' hbA hWA hc hr0 hy
      go_wp2_with (go_at_call 115; refine hcall.mono ?_)
      rintro e W2 ⟨rfl, hx2⟩
      have hx2' : Ext wr W2 := hxA.trans hx2
      have hb2 : Below (w.heap.size + 1) (w.alloc (.cells #[.slice (some ⟨b, off, none⟩) s.length cap] 47)) W2 := hbw.trans (hx2'.bel hB1)
      go_wp2_with (go_at_call 114; refine (Tryz.Builder_WriteString (w.heap.size + 1) (w.heap.size + 1) _ _ W2 (isB_ext hI hx2') hsz3 (Nat.le_trans (Nat.le_of_eq hsz0.symm) hb2.size)).mono ?_)
      rintro e W3 ⟨rfl, hB3, hb3⟩
      go_wp2
      go_roundw
      case rel =>
        refine ⟨k + 1, rfl, hp, ?_, hb2.trans hb3⟩
        rw [Lib.strCells_eq, ← Lib.byteCells_append, ← e2] at hB3
        exact .inr hB3
      case measure =>
        show s.length - ((k : Int) + 1).toNat < s.length - (k : Int).toNat
        omega
    · have hkl : k = s.length := by omega
      subst hkl
      rw [List.take_length] at hI
      go_wp2_with (go_at_call 116; refine (Tryz.Builder_String_any (w.heap.size + 1) (w.heap.size + 1) (modelB s) wr hI hB1).mono ?_)
      rintro e W2 ⟨rfl, hb2⟩
      go_wp2
      go_ret
      exact ⟨rfl, hx01.trans (Below.ext (by rw [hsz0]; exact hbw.trans hb2))⟩
theorem k_modelText : SoundC Tryz.prog K_modelText.1 K_modelText.2 := ⟨callable_of (by kernel_rfl), fun x hx S w vals hin hgl hrel => by
  obtain ⟨y0, r0, rfl, ha, hc⟩ := hrel
  cases hc
  obtain ⟨vs, rfl, y1, r1, rfl, ha, hc⟩ := ha
  cases hc
  exact (w_modelText x hx S w y1 hin hgl ha).mono fun e w' ⟨he, hw⟩ => ⟨_, S, he, hw, fun _ h => h, fun _ h => .inl h, fun b hb => Nat.lt_of_lt_of_le (hin b hb) hw.size, rfl⟩⟩
end Cg

/-
  The codes' contracts: models that are read. No condition.
-/
set_option linter.unusedVariables false
set_option linter.unusedSimpArgs false
set_option maxRecDepth 100000
namespace Pl
open Go Cg
theorem pw_le {c : UInt8} {s : ByteArray} (i : Nat) : (pw (cut c s) i).size ≤ s.size := by
  unfold pw
  by_cases h : i < (cut c s).length
  · exact cut_le (getD_mem _ h)
  · rw [List.getD_eq_getElem?_getD, List.getElem?_eq_none (by omega)]
    exact Nat.zero_le _
theorem cutF_le (s sep : ByteArray) : (cutA s sep).size ≤ s.size ∧ (cutR s sep).size ≤ s.size := by
  unfold cutA cutR Go.Lib.cut
  have h : s.size = (bl' s).length := rfl
  split
  · exact ⟨by show (List.take _ (bl' s)).length ≤ _; rw [List.length_take, h]; omega, by show (List.drop _ (bl' s)).length ≤ _; rw [List.length_drop, h]; omega⟩
  · exact ⟨Nat.le_refl _, Nat.zero_le _⟩
theorem ratsOf_len (w : List ByteArray) : (ratsOf w).length = w.length := by unfold ratsOf; exact List.length_map ..
theorem ratsOf_snoc {w : List ByteArray} {x : Nat} (h : x < w.length) : ratsOf (w.take (x + 1)) = ratsOf (w.take x) ++ [(ratRd (w.getD x ByteArray.empty)).1] := by
  unfold ratsOf; rw [take_snoc ByteArray.empty h, List.map_append]; rfl
theorem word_cost {c : UInt8} (s : ByteArray) : (pw (cut c s) 0).size + ((cut c s).length - 1) ≤ s.size := by
  have h1 := cut_sum c s
  unfold pw
  match hc : cut c s, cut_ne c s with
  | a :: r, _ =>
    rw [hc] at h1
    simp only [sumN] at h1
    have : r.length ≤ sumN (fun (p : ByteArray) => p.size + 1) r := by
      rw [sumN_one]; omega
    simp only [List.getD_cons_zero, List.length_cons]
    omega
theorem rowScan_cost (s : ByteArray) : costR (rowScan s) ≤ s.size := by
  have h := word_cost (c := 32) s
  unfold costR rowScan
  dsimp only
  rw [ratsOf_len, List.length_take, List.length_drop]
  omega
theorem readRow_cost (s : ByteArray) : costR (readRow s).1 ≤ s.size := by
  unfold costR readRow
  split
  · have h := word_cost (c := 32) (cutA s eqS)
    have h2 := (cutF_le s eqS).1
    unfold rowI leftW
    dsimp only
    rw [ratsOf_len, List.length_drop]
    omega
  · exact Nat.zero_le _
theorem rows_cost {s : ByteArray} {x : Nat} (f : ByteArray → Rw) (hf : ∀ l, costR (f l) ≤ l.size) (h : x ≤ (cut 10 s).length - 1) (hs : s.size ≤ 1048576) : costM (((cut 10 s).take x).map f) ≤ 1048576 := by
  have h1 := take_cost h
  rw [sumN_one] at h1
  have h2 := sumN_mono (f := fun l => costR (f l)) (g := ByteArray.size) hf ((cut 10 s).take x)
  unfold costM
  rw [sumN_map, List.length_map]
  omega
end Pl
namespace Cg
open Go Go.Proofs Pl
theorem mrows_push {l : List Rw} {v : Rw} : IsO (.arr (l.length + 1) 4 (joinC l.length (cR l) (rowsCell [[st v.1, rats v.2.1, i64 v.2.2.1, i64 v.2.2.2]]))) (arR (l ++ [v])) :=
  IsO_join EncN.eR (IsR_row EncN.eR fun j hj => by
    match j, hj with
    | 0, _ => exact EncN.eR.self v (j := 0) (by decide)
    | 1, _ => exact EncN.eR.self v (j := 1) (by decide)
    | 2, _ => exact EncN.eR.self v (j := 2) (by decide)
    | 3, _ => exact EncN.eR.self v (j := 3) (by decide))
theorem xrR_push {l : List Rw} {n : Nat} {v : Rw} (hn : n = l.length) : IsO (.xarr (n + 1) 4 (joinC n (cR l) (rowsCell [[st v.1, rats v.2.1, i64 v.2.2.1, i64 v.2.2.2]]))) (xrR (l ++ [v])) :=
  IsO_xpush hn IsX_eR fun j hj => by
    match j, hj with
    | 0, _ => exact IsX_eR v 0 (by decide)
    | 1, _ => exact IsX_eR v 1 (by decide)
    | 2, _ => exact IsX_eR v 2 (by decide)
    | 3, _ => exact IsX_eR v 3 (by decide)
set_option maxHeartbeats 8000000 in
theorem g_sRatRead (s : ByteArray) (h1 : SzM s) : GoalW Tryz.prog [K_l16Cut, K_l16Num, K_sRatOk, K_sRatText] ([]) K_sRatRead.1 K_sRatRead.2 (s) := GoalW.of (vc_sRatRead s) (by
  simp (maxSteps := 2000000) [-List.getD_eq_getElem?_getD, -List.mem_cons, -Bool.forall_bool, -Bool.exists_bool, and_assoc, peta, tl_inj, ex_1, ex_2, ex_3, ex_4, ex_5, ex_6, ex_7, ex_8, ex_9, ey_2, ey_3, ey_4, ey_5, ey_6, ey_7, ey_8, ey_9]
  have hs : s.size ≤ 1048576 := h1
  have p0 := pw_le (c := 47) (s := s) 0
  have p1 := pw_le (c := 47) (s := s) 1
  have e0 : (cut 47 s).getD 0 ByteArray.empty = pw (cut 47 s) 0 := rfl
  have e1 : (cut 47 s).getD 1 ByteArray.empty = pw (cut 47 s) 1 := rfl
  have fin : ∀ a : Rt, ratRd s = (if ratOk a = true ∧ mkB (ratB a) = s then (a, true) else ((0, 0), false)) → (ratOk a = false → 0 = (ratRd s).fst.fst ∧ 0 = (ratRd s).fst.snd ∧ (ratRd s).snd = false) ∧
      (ratOk a = true → (¬tx (ratOk a) (ratB a) = s → 0 = (ratRd s).fst.fst ∧ 0 = (ratRd s).fst.snd ∧ (ratRd s).snd = false) ∧ (tx (ratOk a) (ratB a) = s → a.1 = (ratRd s).fst.fst ∧ a.2 = (ratRd s).fst.snd ∧ (ratRd s).snd = true)) := fun a e => by
    refine ⟨fun h => ?_, fun h => ⟨fun h2 => ?_, fun h2 => ?_⟩⟩
    · rw [e, if_neg (by rw [h]; simp)]; exact ⟨rfl, rfl, rfl⟩
    · rw [h, tx_yes rfl] at h2
      rw [e, if_neg fun e => h2 e.2]; exact ⟨rfl, rfl, rfl⟩
    · rw [h, tx_yes rfl] at h2
      rw [e, if_pos ⟨h, h2⟩]; exact ⟨rfl, rfl, rfl⟩
  have hS := ratRd_S s
  refine ⟨47, rfl, by omega, cut_ne _ _, ?_⟩
  rw [e0, e1]
  refine ⟨by omega, fun hl => ⟨hl, by omega, by omega, ?_⟩, fun hl => ?_⟩
  · refine fin ((num (pw (cut 47 s) 0)).1, (num (pw (cut 47 s) 1)).1) ?_
    have e : ratS s = ((num (pw (cut 47 s) 0)).1, (num (pw (cut 47 s) 1)).1) := by unfold ratS; rw [if_pos (by omega)]
    rw [hS, e]
  · refine fin ((num (pw (cut 47 s) 0)).1, 1) ?_
    have e : ratS s = ((num (pw (cut 47 s) 0)).1, 1) := by unfold ratS; rw [if_neg (by omega)]
    rw [hS, e])
theorem k_sRatRead : SoundC Tryz.prog K_sRatRead.1 K_sRatRead.2 := sound_ofW hm ((((CtxOK.nil.and k_sRatText).and k_sRatOk).and k_l16Num).and k_l16Cut) (fun (s : ByteArray) => []) (by kernel_rfl) fun (s : ByteArray) hb => g_sRatRead s hb
set_option maxHeartbeats 8000000 in
theorem g_iRatRead (s : ByteArray) (h1 : SzM s) : GoalW Tryz.prog [K_Cut, K_Atoi, K_iRatOk, K_ratText] ([]) K_iRatRead.1 K_iRatRead.2 (s) := GoalW.of (vc_iRatRead s) (by
  simp (maxSteps := 2000000) [-List.getD_eq_getElem?_getD, -List.mem_cons, -Bool.forall_bool, -Bool.exists_bool, and_assoc, peta, tl_inj, ex_1, ex_2, ex_3, ex_4, ex_5, ex_6, ex_7, ex_8, ex_9, ey_2, ey_3, ey_4, ey_5, ey_6, ey_7, ey_8, ey_9]
  have hs : s.size ≤ 1048576 := h1
  obtain ⟨c1, c2⟩ := cutF_le s (mkB [47])
  have fin : ∀ a : Rt, ratRd s = (if ratOk a = true ∧ mkB (ratB a) = s then (a, true) else ((0, 0), false)) → (ratOk a = false → 0 = (ratRd s).fst.fst ∧ 0 = (ratRd s).fst.snd ∧ (ratRd s).snd = false) ∧
      (ratOk a = true → ratOk a = true ∧ (¬mkB (ratB a) = s → 0 = (ratRd s).fst.fst ∧ 0 = (ratRd s).fst.snd ∧ (ratRd s).snd = false) ∧ (mkB (ratB a) = s → a.1 = (ratRd s).fst.fst ∧ a.2 = (ratRd s).fst.snd ∧ (ratRd s).snd = true)) := fun a e => by
    refine ⟨fun h => ?_, fun h => ⟨h, fun h2 => ?_, fun h2 => ?_⟩⟩
    · rw [e, if_neg (by rw [h]; simp)]; exact ⟨rfl, rfl, rfl⟩
    · rw [e, if_neg fun e => h2 e.2]; exact ⟨rfl, rfl, rfl⟩
    · rw [e, if_pos ⟨h, h2⟩]; exact ⟨rfl, rfl, rfl⟩
  have hI := ratRd_I s
  rw [show ({ data := #[47] } : ByteArray) = mkB [47] from rfl]
  refine ⟨by omega, by omega, fun hk => ⟨by omega, ?_⟩, fun hk => ?_⟩
  · refine fin (atoi (cutA s (mkB [47])), atoi (cutR s (mkB [47]))) ?_
    have e : ratI s = (atoi (cutA s (mkB [47])), atoi (cutR s (mkB [47]))) := by unfold ratI; rw [if_pos hk]
    rw [hI, e]
  · refine fin (atoi (cutA s (mkB [47])), 1) ?_
    have e : ratI s = (atoi (cutA s (mkB [47])), 1) := by unfold ratI; rw [if_neg (by rw [hk]; simp)]
    rw [hI, e])
theorem k_iRatRead : SoundC Tryz.prog K_iRatRead.1 K_iRatRead.2 := sound_ofW hm ((((CtxOK.nil.and k_ratText).and k_iRatOk).and k_Atoi).and k_Cut) (fun (s : ByteArray) => []) (by kernel_rfl) fun (s : ByteArray) hb => g_iRatRead s hb
set_option maxHeartbeats 8000000 in
theorem g_l7Scan (s : ByteArray) (h1 : SzM s) : GoalW Tryz.prog [K_l16Cut, K_sRatRead] (A_l7Scan s) K_l7Scan.1 K_l7Scan.2 (s) := GoalW.of (vc_l7Scan s) (by
  simp (maxSteps := 2000000) [-List.getD_eq_getElem?_getD, -List.mem_cons, -Bool.forall_bool, -Bool.exists_bool, and_assoc, peta, tl_inj, ex_1, ex_2, ex_3, ex_4, ex_5, ex_6, ex_7, ex_8, ex_9, ey_2, ey_3, ey_4, ey_5, ey_6, ey_7, ey_8, ey_9]
  have hs : s.size ≤ 1048576 := h1
  have hp := cut_ne 32 s
  have hl := cut_len 32 s
  have htl : (cut 32 s).tail.length = (cut 32 s).length - 1 := List.length_tail
  have hg : ∀ x, (cut 32 s).getD (x + 1) ByteArray.empty = (cut 32 s).tail.getD x ByteArray.empty := fun x => by
    simp only [List.getD_eq_getElem?_getD, List.getElem?_tail]
  have hw : ∀ x : Nat, x ≤ 3 → IntKind.i64.wrap ((x : Int) + 1 + 2) = (x : Int) + 1 + 2 := fun x h => wrap_small (by omega) (by omega)
  have hw1 : IntKind.i64.wrap (((cut 32 s).length : Int) - 1) = ((cut 32 s).length : Int) - 1 := wrap_small (by omega) (by omega)
  have hn : (((cut 32 s).length : Int) - 1).toNat = (cut 32 s).length - 1 := by omega
  have fin : ∀ x, x ≤ min ((cut 32 s).length - 3) 3 → (x = min ((cut 32 s).length - 3) 3) → 0 ≤ ((cut 32 s).length : Int) - 1 ∧ ((cut 32 s).length : Int) - 1 < ((cut 32 s).length : Int) ∧ (cut 32 s).length - 1 < (cut 32 s).length ∧
      ((cut 32 s).getD ((cut 32 s).length - 1) ByteArray.empty).size ≤ 1048576 ∧ x ≤ (ratsOf (List.take x (cut 32 s).tail)).length ∧ pw (cut 32 s) 0 = (rowScan s).fst ∧
      Is (AV.sl x 2 (cQ (ratsOf (List.take x (cut 32 s).tail)))) (rats (ratsOf (List.take (min ((cut 32 s).length - 3) 3) (cut 32 s).tail))) ∧
      (ratRd ((cut 32 s).getD ((cut 32 s).length - 1) ByteArray.empty)).fst.fst = (ratRd (pw (cut 32 s) ((cut 32 s).length - 1))).fst.fst ∧ (ratRd ((cut 32 s).getD ((cut 32 s).length - 1) ByteArray.empty)).fst.snd = (ratRd (pw (cut 32 s) ((cut 32 s).length - 1))).fst.snd := fun x k1 k2 => by
    have hx : x = (ratsOf (List.take x (cut 32 s).tail)).length := by rw [ratsOf_len, List.length_take, htl]; omega
    refine ⟨by omega, by omega, by omega, Nat.le_trans (cut_le (getD_mem _ (by omega))) hs, by omega, rfl, ?_, rfl, rfl⟩
    rw [← k2]
    exact (rats_take (by omega)).2 (List.take_of_length_le (by omega))
  refine ⟨32, rfl, by omega, hp, ⟨0, Nat.zero_le _, rfl, rfl, rfl, rfl, rfl, rfl, rfl⟩, fun x hx => ?_⟩
  rw [hw x (by omega), hw1, hn]
  refine ⟨fun hlt => ⟨fun h3 => ⟨by omega, by omega, by omega, Nat.le_trans (cut_le (getD_mem _ (by omega))) hs, by rw [ratsOf_len, List.length_take, htl]; omega, by omega, by omega, by omega, wrap_small (by omega) (by omega), ?_⟩, fun h3 => fin x hx (by omega)⟩, fun hge => fin x hx (by omega)⟩
  have hxl : (ratsOf (List.take x (cut 32 s).tail)).length = x := by rw [ratsOf_len, List.length_take, htl]; omega
  have := rats_push (l := ratsOf (List.take x (cut 32 s).tail)) (a := (ratRd ((cut 32 s).getD (x + 1) ByteArray.empty)).1.1) (b := (ratRd ((cut 32 s).getD (x + 1) ByteArray.empty)).1.2)
  rw [hxl] at this
  rw [ratsOf_snoc (by omega), ← hg]
  exact this)
theorem k_l7Scan : SoundC Tryz.prog K_l7Scan.1 K_l7Scan.2 := sound_ofW hm ((CtxOK.nil.and k_sRatRead).and k_l16Cut) (fun (s : ByteArray) => A_l7Scan s) (by kernel_rfl) fun (s : ByteArray) hb => g_l7Scan s hb
set_option maxHeartbeats 8000000 in
theorem g_sModelRead (s : ByteArray) (h1 : SzM s) : GoalW Tryz.prog [K_l16Cut, K_l7Scan, K_l7Right, K_sModelText] (A_sModelRead s) K_sModelRead.1 K_sModelRead.2 (s) := GoalW.of (vc_sModelRead s) (by
  simp (maxSteps := 2000000) [-List.getD_eq_getElem?_getD, -List.mem_cons, -Bool.forall_bool, -Bool.exists_bool, and_assoc, peta, tl_inj, ex_1, ex_2, ex_3, ex_4, ex_5, ex_6, ex_7, ex_8, ex_9, ey_2, ey_3, ey_4, ey_5, ey_6, ey_7, ey_8, ey_9]
  have hs : s.size ≤ 1048576 := h1
  have hp := cut_ne 10 s
  have hl := cut_len 10 s
  have hw : ∀ x : Nat, x ≤ 41 → IntKind.i64.wrap ((x : Int) + 1) = (x : Int) + 1 := fun x h => wrap_small (by omega) (by omega)
  have hml : (List.map rowScan (cut 10 s)).length = (cut 10 s).length := List.length_map ..
  have fin : ∀ x : Nat, x ≤ (cut 10 s).length - 1 → x ≤ 41 → (x = (cut 10 s).length - 1 ∨ x = 41) → x ≤ min x (cut 10 s).length ∧
      ∃ x_1, Is (AV.sl x 4 (cR (List.take x (List.map rowScan (cut 10 s))))) (mrows x_1) ∧ costM x_1 ≤ 1048576 ∧ (mRight x_1 = false → (modelReadS s).fst = [] ∧ (modelReadS s).snd = false) ∧
        (mRight x_1 = true → x ≤ min x (cut 10 s).length ∧ ∃ x_2, Is (AV.sl x 4 (cR (List.take x (List.map rowScan (cut 10 s))))) (mrows x_2) ∧ costM x_2 ≤ 1048576 ∧
          (¬tx (mRight x_2) (modelB x_2) = s → (modelReadS s).fst = [] ∧ (modelReadS s).snd = false) ∧
          (tx (mRight x_2) (modelB x_2) = s → x ≤ min x (cut 10 s).length ∧ Is (AV.sl x 4 (cR (List.take x (List.map rowScan (cut 10 s))))) (mrows (modelReadS s).fst) ∧ (modelReadS s).snd = true)) := fun x k1 k2 k3 => by
    have e : List.take x (List.map rowScan (cut 10 s)) = mdlScan s := by
      unfold mdlScan
      rw [← List.map_take, List.dropLast_eq_take, List.take_take]
      congr 2
      omega
    have hc : costM (mdlScan s) ≤ 1048576 := by
      rw [← e, ← List.map_take]
      exact rows_cost rowScan rowScan_cost k1 hs
    have hlen : x = (mdlScan s).length := by rw [← e, List.length_take, hml]; omega
    have hI : Is (AV.sl x 4 (cR (mdlScan s))) (mrows (mdlScan s)) := by
      rw [hlen]; exact (mrows_take (Nat.le_refl _)).2 List.take_length
    rw [e]
    refine ⟨by omega, mdlScan s, hI, hc, fun h => ?_, fun h => ⟨by omega, mdlScan s, hI, hc, fun h2 => ?_, fun h2 => ⟨by omega, ?_⟩⟩⟩
    · unfold modelReadS; rw [if_neg (by rw [h]; simp)]; exact ⟨rfl, rfl⟩
    · unfold modelReadS; rw [if_neg fun e => h2 (by rw [h, tx_yes rfl]; exact e.2)]; exact ⟨rfl, rfl⟩
    · unfold modelReadS; rw [if_pos ⟨h, by rw [h, tx_yes rfl] at h2; exact h2⟩]; exact ⟨hI, rfl⟩
  refine ⟨10, rfl, by omega, ⟨0, Nat.zero_le _, Nat.zero_le _, rfl, rfl, rfl, .inl rfl⟩, fun x k1 k2 => ?_⟩
  rw [hw x k2]
  refine ⟨fun hlt => ⟨fun h7 => ⟨by omega, Nat.le_trans (cut_le (getD_mem _ (by omega))) hs, by omega, by omega, by omega, by omega, by omega, rfl, ?_⟩, fun h7 => fin x k1 k2 (.inr (by omega))⟩, fun hge => fin x k1 k2 (.inl (by omega))⟩
  have hx : (List.take x (List.map rowScan (cut 10 s))).length = x := by rw [List.length_take, hml]; omega
  have := mrows_push (l := List.take x (List.map rowScan (cut 10 s))) (v := rowScan ((cut 10 s).getD x ByteArray.empty))
  rw [hx] at this
  rw [take_snoc dR (by rw [hml]; omega)]
  have e : (List.map rowScan (cut 10 s)).getD x dR = rowScan ((cut 10 s).getD x ByteArray.empty) := by
    simp only [List.getD_eq_getElem?_getD, List.getElem?_map, List.getElem?_eq_getElem (show x < (cut 10 s).length by omega), Option.map_some, Option.getD_some]
  have e5 : ∀ t, ratsOf (List.take (min ((cut 32 t).length - 3) 3) (cut 32 t).tail) = (rowScan t).2.1 := fun t => by unfold rowScan; rw [List.drop_one]
  rw [e, e5]
  exact this)
theorem k_sModelRead : SoundC Tryz.prog K_sModelRead.1 K_sModelRead.2 := sound_ofW hm ((((CtxOK.nil.and k_sModelText).and k_l7Right).and k_l7Scan).and k_l16Cut) (fun (s : ByteArray) => A_sModelRead s) (by kernel_rfl) fun (s : ByteArray) hb => g_sModelRead s hb
set_option maxHeartbeats 8000000 in
theorem g_readRow (s : ByteArray) (h1 : SzM s) : GoalW Tryz.prog [K_Cut, K_Split, K_iRatRead, K_rowOk] (A_readRow s) K_readRow.1 K_readRow.2 (s) := GoalW.of (vc_readRow s) (by
  simp (maxSteps := 2000000) [-List.getD_eq_getElem?_getD, -List.mem_cons, -Bool.forall_bool, -Bool.exists_bool, and_assoc, peta, tl_inj, ex_1, ex_2, ex_3, ex_4, ex_5, ex_6, ex_7, ex_8, ex_9, ey_2, ey_3, ey_4, ey_5, ey_6, ey_7, ey_8, ey_9]
  have hs : s.size ≤ 1048576 := h1
  obtain ⟨c1, c2⟩ := cutF_le s eqS
  have he : ({ data := #[32, 61, 32] } : ByteArray) = eqS := rfl
  have hLw : cut 32 (cutA s eqS) = leftW s := rfl
  have hp : 0 < (leftW s).length := cut_ne 32 _
  have htl : (leftW s).tail.length = (leftW s).length - 1 := List.length_tail
  have hg : ∀ i, (leftW s).getD (i + 1) ByteArray.empty = (leftW s).tail.getD i ByteArray.empty := fun i => by
    simp only [List.getD_eq_getElem?_getD, List.getElem?_tail]
  have hwl : ∀ y ∈ (leftW s).tail, y.size ≤ 1048576 := fun y hy => by
    have := cut_le (c := 32) (s := cutA s eqS) (List.mem_of_mem_tail hy); omega
  have p0 : (pw (leftW s) 0).size ≤ 1048576 := by have := pw_le (c := 32) (s := cutA s eqS) 0; rw [hLw] at this; omega
  have no : ¬ (cutK s eqS = true ∧ (leftW s).length ≤ 3 ∧ ((leftW s).drop 1).all (fun x => (ratRd x).2) = true) → readRow s = ((ByteArray.empty, [], (0, 0)), false) := fun h => by unfold readRow; rw [if_neg h]
  have no' : readRow s = ((ByteArray.empty, [], (0, 0)), false) → { data := #[] } = (readRow s).fst.fst ∧ (readRow s).fst.snd.fst = [] ∧ 0 = (readRow s).fst.snd.snd.fst ∧ 0 = (readRow s).fst.snd.snd.snd ∧ (readRow s).snd = false ∧ (readRow s).fst.snd.fst = [] := fun h => by
    rw [h]; exact ⟨rfl, rfl, rfl, rfl, rfl, rfl⟩
  rw [he]
  refine ⟨by omega, 32, rfl, by omega, ?_⟩
  rw [hLw]
  refine ⟨fun hk => no' (no fun e => (by rw [hk] at e; cases e.1)), fun hk => ⟨fun h3 => no' (no fun e => by omega), fun h3 => ⟨hp, by omega, ⟨0, Nat.zero_le _, by omega, hk, fun x hx => by simp at hx, rfl, ?_, rfl, rfl, rfl, rfl, rfl, rfl⟩, fun x hx h3' _ hall => ⟨fun hlt => ⟨hlt, hwl _ (getD_mem _ (by omega)), fun hno => no' (no fun e => ?_), fun hyes => ⟨by rw [ratsOf_len, List.length_take, htl]; omega, by omega, by omega, by omega, hk, fun y hy => ?_, by omega, wrap_small (by omega) (by omega), ?_⟩⟩, fun hge => ?_⟩⟩⟩⟩
  · have e : (leftW s).length - 1 = (leftW s).tail.length := htl.symm
    rw [e]
    exact Is_sl_of rfl fun i hi j hj => by
      obtain rfl : j = 0 := by omega
      rw [hg i]
      exact Is_st.2 rfl
  · rw [List.drop_one] at e
    have := List.all_eq_true.1 e.2.2 _ (getD_mem ByteArray.empty (show x < (leftW s).tail.length by omega))
    rw [hno] at this; cases this
  · rw [take_snoc ByteArray.empty (by omega), List.mem_append] at hy
    rcases hy with hy | hy
    · exact hall y hy
    · rw [List.mem_singleton] at hy; rw [hy]; exact hyes
  · have hxl : (ratsOf (List.take x (leftW s).tail)).length = x := by rw [ratsOf_len, List.length_take, htl]; omega
    have := rats_push (l := ratsOf (List.take x (leftW s).tail)) (a := (ratRd ((leftW s).tail.getD x ByteArray.empty)).1.1) (b := (ratRd ((leftW s).tail.getD x ByteArray.empty)).1.2)
    rw [hxl] at this
    rw [ratsOf_snoc (by omega)]
    exact this
  · have hxx : x = (leftW s).tail.length := by omega
    have ht : List.take x (leftW s).tail = (leftW s).tail := List.take_of_length_le (by omega)
    rw [ht] at hall ⊢
    have hlen : (ratsOf (leftW s).tail).length = x := by rw [ratsOf_len]; omega
    have hR : readRow s = ((pw (leftW s) 0, ratsOf (leftW s).tail, (ratRd (cutR s eqS)).1), (ratRd (cutR s eqS)).2 && rowOk (pw (leftW s) 0, ratsOf (leftW s).tail, (ratRd (cutR s eqS)).1)) := by
      unfold readRow rowI
      rw [List.drop_one, if_pos ⟨hk, by omega, List.all_eq_true.2 fun y hy => hall y hy⟩]
    have hI : Is (AV.sl x 2 (cQ (ratsOf (leftW s).tail))) (rats (ratsOf (leftW s).tail)) := by
      rw [← hlen]; exact (rats_take (Nat.le_refl _)).2 List.take_length
    rw [hR]
    dsimp only
    exact ⟨by omega, fun hv => ⟨by omega, ratsOf (leftW s).tail, hI, p0, by omega, rfl, hlen.symm, rfl, rfl, by rw [hv, Bool.true_and], .inr rfl⟩, fun hv => ⟨rfl, hlen.symm, rfl, rfl, by rw [hv, Bool.false_and], .inr rfl⟩⟩)
theorem k_readRow : SoundC Tryz.prog K_readRow.1 K_readRow.2 := sound_ofW hm ((((CtxOK.nil.and k_rowOk).and k_iRatRead).and k_Split).and k_Cut) (fun (s : ByteArray) => A_readRow s) (by kernel_rfl) fun (s : ByteArray) hb => g_readRow s hb
set_option maxHeartbeats 8000000 in
theorem g_iModelRead (s : ByteArray) (h1 : SzM s) : GoalW Tryz.prog [K_linesOf, K_readRow, K_iModel, K_modelText] (A_iModelRead s) K_iModelRead.1 K_iModelRead.2 (s) := GoalW.of (vc_iModelRead s) (by
  simp (maxSteps := 2000000) [-List.getD_eq_getElem?_getD, -List.mem_cons, -Bool.forall_bool, -Bool.exists_bool, and_assoc, peta, tl_inj, ex_1, ex_2, ex_3, ex_4, ex_5, ex_6, ex_7, ex_8, ex_9, ey_2, ey_3, ey_4, ey_5, ey_6, ey_7, ey_8, ey_9]
  have hs : s.size ≤ 1048576 := h1
  have hp := cut_ne 10 s
  have hll : (linesOf s).1.length = (cut 10 s).length - 1 := by unfold linesOf; exact List.length_dropLast
  have no : ¬ ((linesOf s).2 = true ∧ (linesOf s).1.length ≤ 40 ∧ (linesOf s).1.all (fun l => (readRow l).2) = true ∧ mRight (rowsIn (linesOf s).1) = true ∧ mkB (modelB (rowsIn (linesOf s).1)) = s) → (modelReadI s).fst = [] ∧ (modelReadI s).snd = false ∧ (modelReadI s).fst = [] := fun h => by
    unfold modelReadI; rw [if_neg h]; exact ⟨rfl, rfl, rfl⟩
  have hsy : ∀ x, x ≤ (linesOf s).1.length → (rowsIn ((linesOf s).1.take x)).length = x := fun x h => by unfold rowsIn; rw [List.length_map, List.length_take]; omega
  refine ⟨by omega, fun h => no fun e => (by rw [h] at e; cases e.1), fun hok => ⟨fun h7 => no fun e => by omega, fun h7 => ⟨⟨0, Nat.zero_le _, by omega, hok, fun x hx => by simp at hx, rfl, rfl, rfl⟩, fun x k1 _ _ k2 => ⟨fun hlt => ⟨hlt, ?_, fun hno => no fun e => ?_, fun hyes => ⟨(hsy x k1).symm, by omega, hlt, by omega, hok, fun y hy => ?_, by omega, wrap_small (by omega) (by omega), ?_⟩⟩, fun hge => ?_⟩⟩⟩⟩
  · have hm : (linesOf s).1.getD x ByteArray.empty ∈ cut 10 s := by
      have := getD_mem ByteArray.empty hlt
      unfold linesOf at this ⊢
      exact (List.dropLast_sublist _).subset this
    exact Nat.le_trans (cut_le hm) hs
  · have := List.all_eq_true.1 e.2.2.1 _ (getD_mem ByteArray.empty hlt)
    rw [hno] at this; cases this
  · rw [take_snoc ByteArray.empty hlt, List.mem_append] at hy
    rcases hy with hy | hy
    · exact k2 y hy
    · rw [List.mem_singleton] at hy; rw [hy]; exact hyes
  · have e : rowsIn ((linesOf s).1.take (x + 1)) = rowsIn ((linesOf s).1.take x) ++ [(readRow ((linesOf s).1.getD x ByteArray.empty)).1] := by
      unfold rowsIn; rw [take_snoc ByteArray.empty hlt, List.map_append]; rfl
    rw [e]
    exact xrR_push (hsy x k1).symm
  · have hx : x = (linesOf s).1.length := by omega
    subst hx
    rw [List.take_length] at k2 ⊢
    have hlen : (rowsIn (linesOf s).1).length = (linesOf s).1.length := by unfold rowsIn; exact List.length_map ..
    have hc : costM (rowsIn (linesOf s).1) ≤ 1048576 := by
      have := rows_cost (x := (cut 10 s).length - 1) (fun l => (readRow l).1) readRow_cost (Nat.le_refl _) hs
      unfold rowsIn linesOf
      rw [List.dropLast_eq_take]
      exact this
    have hI : Is (AV.sl (linesOf s).1.length 4 (cR (rowsIn (linesOf s).1))) (mrows (rowsIn (linesOf s).1)) := by rw [← hlen]; exact (mrows_take (Nat.le_refl _)).2 List.take_length
    refine ⟨by omega, rowsIn (linesOf s).1, hI, hc, fun h => no fun e => (by rw [h] at e; cases e.2.2.2.1), fun h => ⟨by omega, rowsIn (linesOf s).1, hI, h, fun h2 => no fun e => h2 e.2.2.2.2, fun h2 => ?_⟩⟩
    have e : modelReadI s = (rowsIn (linesOf s).1, true) := by
      unfold modelReadI; rw [if_pos ⟨hok, by omega, List.all_eq_true.2 fun y hy => k2 y hy, h, h2⟩]
    rw [e]
    exact ⟨hlen.symm, rfl, rfl, by rfl, fun i hi j hj => IsX_eR _ j hj⟩)
theorem k_iModelRead : SoundC Tryz.prog K_iModelRead.1 K_iModelRead.2 := sound_ofW hm ((((CtxOK.nil.and k_modelText).and k_iModel).and k_readRow).and k_linesOf) (fun (s : ByteArray) => A_iModelRead s) (by kernel_rfl) fun (s : ByteArray) hb => g_iModelRead s hb
end Cg

/-
  What is left to show of each function's code, printed by a program: Stx. No condition.
-/
set_option maxRecDepth 100000
set_option linter.unusedVariables false
namespace Cg
open Go Go.Proofs
theorem vc_l2Torn (b : List Int) (p : Int) (s : ByteArray) : (condP ((↑s.size : Int) == (0 : Int)) (∃ y : ByteArray × Int, y.1.size ≤ s.size + (1 : Nat) ∧ (s = y.1 ∧ True) ∧ (Is (byts b) (byts b) ∧ p = y.2 ∧ True) ∧ True)
 (∃ x : List Int × Int × Int,
 Rd (1099511627776 : Int) x.1 x.2.1 ∧ (((0 : Nat) = (0 : Nat) ∧ (2 : Int) = x.2.2 ∧ True) ∧ (Is (byts b) (byts x.1) ∧ p = x.2.1 ∧ True) ∧ True) ∧ ∀ (y : Int),
 ((1 : Int) ≤ x.2.2 → (0 : Int) ≤ y ∧ y < x.2.2) ∧ (x.2.2 < (1 : Int) → y = (0 : Int)) →
 condP (y == (0 : Int))
 (∃ y : ByteArray × Int, y.1.size ≤ s.size + (1 : Nat) ∧ (s = y.1 ∧ True) ∧ (Is (byts x.1) (byts b) ∧ x.2.1 + (1 : Int) = y.2 ∧ True) ∧ True)
 (∃ x_1 : List Int × Int × Int,
 Rd (1099511627776 : Int) x_1.1 x_1.2.1 ∧ (((0 : Nat) = (0 : Nat) ∧ (↑s.size : Int) = x_1.2.2 ∧ True) ∧ (Is (byts x.1) (byts x_1.1) ∧ x.2.1 + (1 : Int) = x_1.2.1 ∧ True) ∧ True) ∧ ∀ (y : Int),
 ((1 : Int) ≤ x_1.2.2 → (0 : Int) ≤ y ∧ y < x_1.2.2) ∧ (x_1.2.2 < (1 : Int) → y = (0 : Int)) →
 ((0 : Int) ≤ y ∧ y ≤ (↑s.size : Int)) ∧ ∃ x : List Int × Int × List ByteArray,
 (Rd (1099511627776 : Int) x.1 x.2.1 ∧ x.2.2 ≠ [] ∧ Sz x.2.2) ∧ (((0 : Nat) = (0 : Nat) ∧ Is
 (AV.lit (8 : Nat) (1 : Nat)
 (rowsCell
 [[st (ByteArray.mk #[])], [st (ByteArray.mk #[(32 : UInt8)])], [st (ByteArray.mk #[(48 : UInt8)])], [st (ByteArray.mk #[(45 : UInt8)])],
 [st (ByteArray.mk #[(49 : UInt8)])], [st (ByteArray.mk #[(60 : UInt8)])], [st (ByteArray.mk #[(61 : UInt8)])],
 [st (ByteArray.mk #[(40 : UInt8)])]]))
 (strs x.2.2) ∧ True) ∧ (Is (byts x_1.1) (byts x.1) ∧ x_1.2.1 + (1 : Int) = x.2.1 ∧ True) ∧ True) ∧ ∀ (y_1 : ByteArray),
 y_1 ∈ x.2.2 →
 (↑((s.extract (0 : Nat) y.toNat).size + y_1.size) : Int) ≤ (9223372036854775807 : Int) ∧ ∃ x_2 : List Int × Int × Int,
 Rd (1099511627776 : Int) x_2.1 x_2.2.1 ∧ (((0 : Nat) = (0 : Nat) ∧ (2 : Int) = x_2.2.2 ∧ True) ∧ (Is (byts x.1) (byts x_2.1) ∧ x.2.1 + (1 : Int) = x_2.2.1 ∧ True) ∧ True) ∧ ∀ (y_2 : Int),
 ((1 : Int) ≤ x_2.2.2 → (0 : Int) ≤ y_2 ∧ y_2 < x_2.2.2) ∧ (x_2.2.2 < (1 : Int) → y_2 = (0 : Int)) →
 ((0 : Int) ≤ IntKind.i64.wrap (y + y_2) ∧ IntKind.i64.wrap (y + y_2) ≤ (↑s.size : Int)) ∧ (↑((s.extract (0 : Nat) y.toNat ++ y_1).size + (s.extract (IntKind.i64.wrap (y + y_2)).toNat s.size).size) : Int) ≤ (9223372036854775807 : Int) ∧ ∃ y_3 : ByteArray × Int,
 y_3.1.size ≤ s.size + (1 : Nat) ∧ (s.extract (0 : Nat) y.toNat ++ y_1 ++ s.extract (IntKind.i64.wrap (y + y_2)).toNat s.size = y_3.1 ∧ True) ∧ (Is (byts x_2.1) (byts b) ∧ x_2.2.1 + (1 : Int) = y_3.2 ∧ True) ∧ True))) = Goal Tryz.prog [K_pick, K_of] ([]) K_l2Torn.1 K_l2Torn.2 ((b, p, s)) := by kernel_rfl

end Cg

/-
  What is left to show of each function's code, printed by a program: Sgl. No condition.
-/
set_option maxRecDepth 100000
set_option linter.unusedVariables false
namespace Cg
open Go Go.Proofs
end Cg

/-
  Plain laws of words: without one of them they are right still, with one twice they are not. No condition.
-/
set_option linter.unusedVariables false
set_option linter.unusedSimpArgs false
namespace Pl
open Go Cg
end Pl

/-
  The codes' contracts: the law that vocabularies can shrink. No condition.
-/
set_option linter.unusedVariables false
set_option linter.unusedSimpArgs false
set_option maxRecDepth 100000
namespace Cg
open Go Go.Proofs Pl
end Cg

/-
  The codes' contracts: the law that vocabularies are read back as written. No condition.
-/
set_option linter.unusedVariables false
set_option linter.unusedSimpArgs false
set_option maxRecDepth 100000
namespace Cg
open Go Go.Proofs Pl
set_option maxHeartbeats 8000000 in
theorem rowS (a : ByteArray) : ∀ j, j < 1 → Is ([st a].getD j .any) (eS a j) := fun j hj => by
  obtain rfl : j = 0 := by omega
  exact Is_st.2 rfl
set_option maxHeartbeats 8000000 in
theorem g_l2Torn (b : List Int) (p : Int) (s : ByteArray) (h1 : Rd 137438953472 b p) (h2 : s.size ≤ 1000000) : GoalW Tryz.prog [K_pick, K_of] ([]) K_l2Torn.1 K_l2Torn.2 ((b, p, s)) := GoalW.of (vc_l2Torn b p s) (by
  simp (maxSteps := 2000000) [-List.getD_eq_getElem?_getD, -List.mem_cons, -Bool.forall_bool, -Bool.exists_bool, and_assoc, peta, tl_inj, ex_1, ex_2, ex_3, ex_4, ex_5, ex_6, ex_7, ex_8, ex_9, ey_2, ey_3, ey_4, ey_5, ey_6, ey_7, ey_8, ey_9]
  intro hne
  have hL : Is (AV.lit 8 1 (rowsCell [[st { data := #[] }], [st { data := #[32] }], [st { data := #[48] }], [st { data := #[45] }], [st { data := #[49] }], [st { data := #[60] }], [st { data := #[61] }], [st { data := #[40] }]]))
      (strs [⟨#[]⟩, ⟨#[32]⟩, ⟨#[48]⟩, ⟨#[45]⟩, ⟨#[49]⟩, ⟨#[60]⟩, ⟨#[61]⟩, ⟨#[40]⟩]) :=
    ((((((((LitR.nil.cons (rowS _)).cons (rowS _)).cons (rowS _)).cons (rowS _)).cons (rowS _)).cons (rowS _)).cons (rowS _)).cons (rowS _)).is
  have hT : ∀ t ∈ [(⟨#[]⟩ : ByteArray), ⟨#[32]⟩, ⟨#[48]⟩, ⟨#[45]⟩, ⟨#[49]⟩, ⟨#[60]⟩, ⟨#[61]⟩, ⟨#[40]⟩], t.size ≤ 1 := by decide
  have hsz : 0 < s.size := Nat.pos_of_ne_zero fun e => hne (ByteArray.ext (Array.eq_empty_of_size_eq_zero e))
  have g3 := h1.2.2.1
  have g4 := h1.2.2.2
  refine ⟨h1.to (by omega) (by omega), fun y y1 y2 y3 => ⟨h1.to (by omega) (by omega), fun k hk _ => ?_⟩⟩
  obtain ⟨k1, k2⟩ := hk (by omega)
  refine ⟨k1, by omega, b, p + 1 + 1, h1.to (by omega) (by omega), _, by simp, by simp, hL, rfl, rfl, fun t ht => ?_⟩
  have := hT t ht
  refine ⟨by omega, h1.to (by omega) (by omega), fun z z1 z2 => ?_⟩
  have hw : IntKind.i64.wrap (k + z) = k + z := wrap_small (by omega) (by omega)
  rw [hw]
  exact ⟨by omega, by omega, by omega, by omega, rfl⟩)
theorem k_l2Torn : SoundC Tryz.prog K_l2Torn.1 K_l2Torn.2 := sound_ofW hm ((CtxOK.nil.and k_of).and k_pick) (fun ((b, p, s) : TnX) => []) (by kernel_rfl) fun ((b, p, s) : TnX) hb => g_l2Torn b p s hb.1 hb.2
end Cg

/-
  The codes' contracts: laws on texts. No condition.
-/
set_option linter.unusedVariables false
set_option linter.unusedSimpArgs false
set_option maxRecDepth 100000
namespace Cg
open Go Go.Proofs Pl
set_option maxHeartbeats 8000000 in
theorem g_iModelText (x : Pl.Mdl) (h1 : SmM x) : GoalW Tryz.prog [K_iModel, K_modelText] ([]) K_iModelText.1 K_iModelText.2 (x) := GoalW.of (vc_iModelText x) (by
  simp (maxSteps := 2000000) [-List.getD_eq_getElem?_getD, -List.mem_cons, -Bool.forall_bool, -Bool.exists_bool, and_assoc, peta, tl_inj, ex_1, ex_2, ex_3, ex_4, ex_5, ex_6, ex_7, ex_8, ex_9, ey_2, ey_3, ey_4, ey_5, ey_6, ey_7, ey_8, ey_9]
  exact ⟨h1, fun h => (tx_no h).symm, fun h => ⟨h, (tx_yes h).symm⟩⟩)
theorem k_iModelText : SoundC Tryz.prog K_iModelText.1 K_iModelText.2 := sound_ofW hm ((CtxOK.nil.and k_modelText).and k_iModel) (fun (x : Pl.Mdl) => []) (by kernel_rfl) fun (x : Pl.Mdl) hb => g_iModelText x hb
end Cg

/-
  Drawn models that stay as they are. No condition.
-/

/-
  What is left to show of each function's code, printed by a program: Mdf. No condition.
-/
set_option maxRecDepth 100000
set_option linter.unusedVariables false
namespace Cg
open Go Go.Proofs
theorem vc_l7AnyF (b : List Int) (p : Int) (s : Pl.Sig) : ((∃ x : Nat × Pl.Mdl × Int,
 (x.1 ≤ List.length s ∧ Pl.MdB ((3 : Nat) * x.1) (2 : Nat) x.2.1 ∧ p ≤ x.2.2 ∧ x.2.2 ≤ p + (100 : Int) * (↑x.1 : Int)) ∧ ((0 : Nat) = (0 : Nat) ∧ (0 : Nat) = (0 : Nat) ∧ (0 : Nat) = (0 : Nat) ∧ ((0 : Nat) = (0 : Nat) ∧ (0 : Nat) = (0 : Nat) ∧ List.length x.2.1 = (0 : Nat)) ∧ (0 : Int) = (↑x.1 : Int) ∧ True) ∧ (Is (byts b) (byts b) ∧ p = x.2.2 ∧ True) ∧ (Is (syms s) (syms s) ∧ True) ∧ (Is (AV.lit (0 : Nat) (1 : Nat) fun (x x_1 : Nat) => AV.any) nilA ∧ True) ∧ List.length x.2.1 = (0 : Nat) ∧ True) ∧ ∀ (x : Nat × Pl.Mdl × Int),
 x.1 ≤ List.length s ∧ Pl.MdB ((3 : Nat) * x.1) (2 : Nat) x.2.1 ∧ p ≤ x.2.2 ∧ x.2.2 ≤ p + (100 : Int) * (↑x.1 : Int) →
 condP (decide ((↑x.1 : Int) < (↑(List.length s) : Int)))
 (∃ x_1 : List Int × Int × List Int,
 (Rd (1099511627776 : Int) x_1.1 x_1.2.1 ∧ x_1.2.2 ≠ [] ∧ Sz x_1.2.2) ∧ (((0 : Nat) = (0 : Nat) ∧ Is (AV.lit (3 : Nat) (1 : Nat) (rowsCell [[i64 (1 : Int)], [i64 (2 : Int)], [i64 (3 : Int)]])) (ints x_1.2.2) ∧ True) ∧ (Is (byts b) (byts x_1.1) ∧ x.2.2 = x_1.2.1 ∧ True) ∧ True) ∧ ∀ (y : Int),
 y ∈ x_1.2.2 →
 (∃ x_2 : Int × Pl.Mdl × Int,
 ((0 : Int) ≤ x_2.1 ∧ x_2.1 ≤ (3 : Int) ∧ Pl.MdB ((3 : Nat) * x.1 + (3 : Nat) - x_2.1.toNat) (2 : Nat) x_2.2.1 ∧ p ≤ x_2.2.2 ∧ x_2.2.2 ≤ p + (100 : Int) * (↑x.1 : Int) + (1 : Int) + (30 : Int) * ((3 : Int) - x_2.1)) ∧ ((0 : Nat) = (0 : Nat) ∧ (0 : Nat) = (0 : Nat) ∧ (0 : Nat) = (0 : Nat) ∧ ((0 : Nat) = (0 : Nat) ∧ List.length x.2.1 = List.length x_2.2.1) ∧ (↑x.1 : Int) = (↑x.1 : Int) ∧ y = x_2.1 ∧ True) ∧ (Is (byts x_1.1) (byts b) ∧ x_1.2.1 + (1 : Int) = x_2.2.2 ∧ True) ∧ (Is (syms s) (syms s) ∧ True) ∧ (Is (AV.lit (0 : Nat) (1 : Nat) fun (x x_3 : Nat) => AV.any) nilA ∧ True) ∧ IsO (xrR x.2.1) (xrR x_2.2.1) ∧ True) ∧ ∀ (x_2 : Int × Pl.Mdl × Int),
 (0 : Int) ≤ x_2.1 ∧ x_2.1 ≤ (3 : Int) ∧ Pl.MdB ((3 : Nat) * x.1 + (3 : Nat) - x_2.1.toNat) (2 : Nat) x_2.2.1 ∧ p ≤ x_2.2.2 ∧ x_2.2.2 ≤ p + (100 : Int) * (↑x.1 : Int) + (1 : Int) + (30 : Int) * ((3 : Int) - x_2.1) →
 condP (decide (x_2.1 > (0 : Int)))
 ((((0 : Int) ≤ (↑x.1 : Int) ∧ (↑x.1 : Int) < (↑(List.length s) : Int)) ∧ x.1 < List.length s ∧ (((0 : Int) ≤ (↑x.1 : Int) ∧ (↑x.1 : Int) < (↑(List.length s) : Int)) ∧ x.1 < List.length s ∧ (∃ x_3 : List Int × Int × Int,
 Rd (549755813888 : Int) x_3.1 x_3.2.1 ∧ (((0 : Nat) = (0 : Nat) ∧ (List.getD s x.1 Pl.dY).2.2 = x_3.2.2 ∧ True) ∧ (Is (byts b) (byts x_3.1) ∧ x_2.2.2 = x_3.2.1 ∧ True) ∧ True) ∧ ∀ (y : Pl.Rt × Int),
 x_3.2.1 ≤ y.2 ∧ y.2 ≤ x_3.2.1 + (2 : Int) →
 (∃ x_4 : Nat × List Pl.Rt × Pl.Rt × Int,
 (x_4.1 ≤ (List.getD s x.1 Pl.dY).2.1.length ∧ x_4.2.1.length = x_4.1 ∧ p ≤ x_4.2.2.2 ∧ x_4.2.2.2 ≤ p + (100 : Int) * (↑x.1 : Int) + (3 : Int) + (30 : Int) * ((3 : Int) - x_2.1) + (2 : Int) * (↑x_4.1 : Int)) ∧ ((0 : Nat) = (0 : Nat) ∧ (0 : Nat) = (0 : Nat) ∧ (0 : Nat) = (0 : Nat) ∧ ((0 : Nat) = (0 : Nat) ∧ List.length x_2.2.1 = List.length x_2.2.1) ∧ (↑x.1 : Int) = (↑x.1 : Int) ∧ x_2.1 = x_2.1 ∧ (0 : Nat) = (0 : Nat) ∧ (0 : Int) = (↑x_4.1 : Int) ∧ True) ∧ (Is (byts x_3.1) (byts b) ∧ y.2 = x_4.2.2.2 ∧ True) ∧ (Is (syms s) (syms s) ∧ True) ∧ (Is (AV.lit (0 : Nat) (1 : Nat) fun (x x_5 : Nat) => AV.any) nilA ∧ True) ∧ IsO (xrR x_2.2.1) (xrR x_2.2.1) ∧ ((List.getD s x.1 Pl.dY).1 = (List.getD s x.1 Pl.dY).1 ∧ ((0 : Nat) = (0 : Nat) ∧ (0 : Nat) = (0 : Nat) ∧ x_4.2.1.length = (0 : Nat)) ∧ y.1.1 = x_4.2.2.1.1 ∧ y.1.2 = x_4.2.2.1.2 ∧ True) ∧ x_4.2.1.length = (0 : Nat) ∧ True) ∧ ∀ (x_4 : Nat × List Pl.Rt × Pl.Rt × Int),
 x_4.1 ≤ (List.getD s x.1 Pl.dY).2.1.length ∧ x_4.2.1.length = x_4.1 ∧ p ≤ x_4.2.2.2 ∧ x_4.2.2.2 ≤ p + (100 : Int) * (↑x.1 : Int) + (3 : Int) + (30 : Int) * ((3 : Int) - x_2.1) + (2 : Int) * (↑x_4.1 : Int) →
 ((0 : Int) ≤ (↑x.1 : Int) ∧ (↑x.1 : Int) < (↑(List.length s) : Int)) ∧ x.1 < List.length s ∧ condP (decide ((↑x_4.1 : Int) < (↑(List.getD s x.1 Pl.dY).2.1.length : Int)))
 ((((0 : Int) ≤ (↑x.1 : Int) ∧ (↑x.1 : Int) < (↑(List.length s) : Int)) ∧ x.1 < List.length s ∧ ((0 : Int) ≤ (↑x_4.1 : Int) ∧ (↑x_4.1 : Int) < (↑(List.getD s x.1 Pl.dY).2.1.length : Int)) ∧ x_4.1 < (List.getD s x.1 Pl.dY).2.1.length ∧ ∃ x_5 : List Int × Int × Int,
 Rd (549755813888 : Int) x_5.1 x_5.2.1 ∧ (((0 : Nat) = (0 : Nat) ∧ (List.getD s x.1 Pl.dY).2.1.getD x_4.1 (0 : Int) = x_5.2.2 ∧ True) ∧ (Is (byts b) (byts x_5.1) ∧ x_4.2.2.2 = x_5.2.1 ∧ True) ∧ True) ∧ ∀ (y : Pl.Rt × Int),
 x_5.2.1 ≤ y.2 ∧ y.2 ≤ x_5.2.1 + (2 : Int) →
 (0 : Nat) + x_4.2.1.length ≤ x_4.2.1.length ∧ (x_4.2.1.length + (1 : Nat)) * (16 : Nat) ≤ (70368744177664 : Nat) ∧ Exists fun (x' : Nat × List Pl.Rt × Pl.Rt × Int) =>
 (x'.1 ≤ (List.getD s x.1 Pl.dY).2.1.length ∧ x'.2.1.length = x'.1 ∧ p ≤ x'.2.2.2 ∧ x'.2.2.2 ≤
 p + (100 : Int) * (↑x.1 : Int) + (3 : Int) + (30 : Int) * ((3 : Int) - x_2.1) +
 (2 : Int) * (↑x'.1 : Int)) ∧ (List.getD s x.1 Pl.dY).2.1.length - x'.1 < (List.getD s x.1 Pl.dY).2.1.length - x_4.1 ∧ ((0 : Nat) = (0 : Nat) ∧ (0 : Nat) = (0 : Nat) ∧ (0 : Nat) = (0 : Nat) ∧ ((0 : Nat) = (0 : Nat) ∧ List.length x_2.2.1 = List.length x_2.2.1) ∧ (↑x.1 : Int) = (↑x.1 : Int) ∧ x_2.1 = x_2.1 ∧ (0 : Nat) = (0 : Nat) ∧ IntKind.i64.wrap ((↑x_4.1 : Int) + (1 : Int)) = (↑x'.1 : Int) ∧ True) ∧ (Is (byts x_5.1) (byts b) ∧ y.2 = x'.2.2.2 ∧ True) ∧ (Is (syms s) (syms s) ∧ True) ∧ (Is (AV.lit (0 : Nat) (1 : Nat) fun (x x_6 : Nat) => AV.any) nilA ∧ True) ∧ IsO (xrR x_2.2.1) (xrR x_2.2.1) ∧ ((List.getD s x.1 Pl.dY).1 = (List.getD s x.1 Pl.dY).1 ∧ ((0 : Nat) = (0 : Nat) ∧ x_4.2.1.length + (1 : Nat) = x'.2.1.length) ∧ x_4.2.2.1.1 = x'.2.2.1.1 ∧ x_4.2.2.1.2 = x'.2.2.1.2 ∧ True) ∧ IsO
 (AObj.arr (x_4.2.1.length + (1 : Nat)) (2 : Nat)
 (joinC x_4.2.1.length (cQ x_4.2.1)
 (rowsCell [[i64 y.1.1, i64 y.1.2]])))
 (arQ x'.2.1) ∧ True) ∧ ((0 : Int) ≤ (↑x.1 : Int) ∧ (↑x.1 : Int) < (↑(List.length s) : Int)) ∧ x.1 < List.length s ∧ ((0 : Int) ≤ (↑x_4.1 : Int) ∧ (↑x_4.1 : Int) < (↑(List.getD s x.1 Pl.dY).2.1.length : Int)) ∧ x_4.1 < (List.getD s x.1 Pl.dY).2.1.length ∧ (∃ x_5 : List Int × Int × Int,
 Rd (549755813888 : Int) x_5.1 x_5.2.1 ∧ (((0 : Nat) = (0 : Nat) ∧ (List.getD s x.1 Pl.dY).2.1.getD x_4.1 (0 : Int) = x_5.2.2 ∧ True) ∧ (Is (byts b) (byts x_5.1) ∧ x_4.2.2.2 = x_5.2.1 ∧ True) ∧ True) ∧ ∀ (y : Pl.Rt × Int),
 x_5.2.1 ≤ y.2 ∧ y.2 ≤ x_5.2.1 + (2 : Int) →
 (0 : Nat) + x_4.2.1.length ≤ x_4.2.1.length ∧ (x_4.2.1.length + (1 : Nat)) * (16 : Nat) ≤ (70368744177664 : Nat) ∧ Exists fun (x' : Nat × List Pl.Rt × Pl.Rt × Int) =>
 (x'.1 ≤ (List.getD s x.1 Pl.dY).2.1.length ∧ x'.2.1.length = x'.1 ∧ p ≤ x'.2.2.2 ∧ x'.2.2.2 ≤
 p + (100 : Int) * (↑x.1 : Int) + (3 : Int) + (30 : Int) * ((3 : Int) - x_2.1) +
 (2 : Int) * (↑x'.1 : Int)) ∧ (List.getD s x.1 Pl.dY).2.1.length - x'.1 < (List.getD s x.1 Pl.dY).2.1.length - x_4.1 ∧ ((0 : Nat) = (0 : Nat) ∧ (0 : Nat) = (0 : Nat) ∧ (0 : Nat) = (0 : Nat) ∧ ((0 : Nat) = (0 : Nat) ∧ List.length x_2.2.1 = List.length x_2.2.1) ∧ (↑x.1 : Int) = (↑x.1 : Int) ∧ x_2.1 = x_2.1 ∧ (0 : Nat) = (0 : Nat) ∧ IntKind.i64.wrap ((↑x_4.1 : Int) + (1 : Int)) = (↑x'.1 : Int) ∧ True) ∧ (Is (byts x_5.1) (byts b) ∧ y.2 = x'.2.2.2 ∧ True) ∧ (Is (syms s) (syms s) ∧ True) ∧ (Is (AV.lit (0 : Nat) (1 : Nat) fun (x x_6 : Nat) => AV.any) nilA ∧ True) ∧ IsO (xrR x_2.2.1) (xrR x_2.2.1) ∧ ((List.getD s x.1 Pl.dY).1 = (List.getD s x.1 Pl.dY).1 ∧ ((0 : Nat) = (0 : Nat) ∧ x_4.2.1.length + (1 : Nat) = x'.2.1.length) ∧ x_4.2.2.1.1 = x'.2.2.1.1 ∧ x_4.2.2.1.2 = x'.2.2.1.2 ∧ True) ∧ IsO
 (AObj.arr (x_4.2.1.length + (1 : Nat)) (2 : Nat)
 (joinC x_4.2.1.length (cQ x_4.2.1)
 (rowsCell [[i64 y.1.1, i64 y.1.2]])))
 (arQ x'.2.1) ∧ True) ∧ ∃ x_5 : List Int × Int × Int,
 Rd (549755813888 : Int) x_5.1 x_5.2.1 ∧ (((0 : Nat) = (0 : Nat) ∧ (List.getD s x.1 Pl.dY).2.1.getD x_4.1 (0 : Int) = x_5.2.2 ∧ True) ∧ (Is (byts b) (byts x_5.1) ∧ x_4.2.2.2 = x_5.2.1 ∧ True) ∧ True) ∧ ∀ (y : Pl.Rt × Int),
 x_5.2.1 ≤ y.2 ∧ y.2 ≤ x_5.2.1 + (2 : Int) →
 (0 : Nat) + x_4.2.1.length ≤ x_4.2.1.length ∧ (x_4.2.1.length + (1 : Nat)) * (16 : Nat) ≤ (70368744177664 : Nat) ∧ Exists fun (x' : Nat × List Pl.Rt × Pl.Rt × Int) =>
 (x'.1 ≤ (List.getD s x.1 Pl.dY).2.1.length ∧ x'.2.1.length = x'.1 ∧ p ≤ x'.2.2.2 ∧ x'.2.2.2 ≤
 p + (100 : Int) * (↑x.1 : Int) + (3 : Int) + (30 : Int) * ((3 : Int) - x_2.1) +
 (2 : Int) * (↑x'.1 : Int)) ∧ (List.getD s x.1 Pl.dY).2.1.length - x'.1 < (List.getD s x.1 Pl.dY).2.1.length - x_4.1 ∧ ((0 : Nat) = (0 : Nat) ∧ (0 : Nat) = (0 : Nat) ∧ (0 : Nat) = (0 : Nat) ∧ ((0 : Nat) = (0 : Nat) ∧ List.length x_2.2.1 = List.length x_2.2.1) ∧ (↑x.1 : Int) = (↑x.1 : Int) ∧ x_2.1 = x_2.1 ∧ (0 : Nat) = (0 : Nat) ∧ IntKind.i64.wrap ((↑x_4.1 : Int) + (1 : Int)) = (↑x'.1 : Int) ∧ True) ∧ (Is (byts x_5.1) (byts b) ∧ y.2 = x'.2.2.2 ∧ True) ∧ (Is (syms s) (syms s) ∧ True) ∧ (Is (AV.lit (0 : Nat) (1 : Nat) fun (x x_6 : Nat) => AV.any) nilA ∧ True) ∧ IsO (xrR x_2.2.1) (xrR x_2.2.1) ∧ ((List.getD s x.1 Pl.dY).1 = (List.getD s x.1 Pl.dY).1 ∧ ((0 : Nat) = (0 : Nat) ∧ x_4.2.1.length + (1 : Nat) = x'.2.1.length) ∧ x_4.2.2.1.1 = x'.2.2.1.1 ∧ x_4.2.2.1.2 = x'.2.2.1.2 ∧ True) ∧ IsO
 (AObj.arr (x_4.2.1.length + (1 : Nat)) (2 : Nat)
 (joinC x_4.2.1.length (cQ x_4.2.1)
 (rowsCell [[i64 y.1.1, i64 y.1.2]])))
 (arQ x'.2.1) ∧ True)
 (∃ x_5 : List Pl.Rw × Pl.Rw,
 (x_5.1.length ≤ (1000 : Nat) ∧ (∀ (y : Pl.Rw), y ∈ x_5.1 → y.2.1.length ≤ (1000 : Nat)) ∧ x_5.2.2.1.length ≤ (1000 : Nat)) ∧ ((((0 : Nat) = (0 : Nat) ∧ List.length x_2.2.1 = x_5.1.length) ∧ ((List.getD s x.1 Pl.dY).1 = x_5.2.1 ∧ ((0 : Nat) = (0 : Nat) ∧ x_4.2.1.length = x_5.2.2.1.length) ∧ x_4.2.2.1.1 = x_5.2.2.2.1 ∧ x_4.2.2.1.2 = x_5.2.2.2.2 ∧ True) ∧ True) ∧ IsO (xrR x_2.2.1) (xrR x_5.1) ∧ IsO (arQ x_4.2.1) (arQ x_5.2.2.1) ∧ True) ∧ ∀ (y : List Nat),
 HPut x_5.1.length y →
 Exists fun (x' : Int × Pl.Mdl × Int) =>
 ((0 : Int) ≤ x'.1 ∧ x'.1 ≤ (3 : Int) ∧ Pl.MdB ((3 : Nat) * x.1 + (3 : Nat) - x'.1.toNat) (2 : Nat) x'.2.1 ∧ p ≤ x'.2.2 ∧ x'.2.2 ≤ p + (100 : Int) * (↑x.1 : Int) + (1 : Int) + (30 : Int) * ((3 : Int) - x'.1)) ∧ x'.1.toNat < x_2.1.toNat ∧ ((0 : Nat) = (0 : Nat) ∧ (0 : Nat) = (0 : Nat) ∧ (0 : Nat) = (0 : Nat) ∧ ((0 : Nat) = (0 : Nat) ∧ y.length = List.length x'.2.1) ∧ (↑x.1 : Int) = (↑x.1 : Int) ∧ IntKind.i64.wrap (x_2.1 - (1 : Int)) = x'.1 ∧ True) ∧ (Is (byts b) (byts b) ∧ x_4.2.2.2 = x'.2.2 ∧ True) ∧ (Is (syms s) (syms s) ∧ True) ∧ (Is (AV.lit (0 : Nat) (1 : Nat) fun (x x_6 : Nat) => AV.any) nilA ∧ True) ∧ IsO (xrR (List.map (fun (i : Nat) => (x_5.1 ++ [x_5.2]).getD i Pl.dR) y)) (xrR x'.2.1) ∧ True)) ∧ ∃ x_3 : List Int × Int × Int,
 Rd (549755813888 : Int) x_3.1 x_3.2.1 ∧ (((0 : Nat) = (0 : Nat) ∧ (List.getD s x.1 Pl.dY).2.2 = x_3.2.2 ∧ True) ∧ (Is (byts b) (byts x_3.1) ∧ x_2.2.2 = x_3.2.1 ∧ True) ∧ True) ∧ ∀ (y : Pl.Rt × Int),
 x_3.2.1 ≤ y.2 ∧ y.2 ≤ x_3.2.1 + (2 : Int) →
 (∃ x_4 : Nat × List Pl.Rt × Pl.Rt × Int,
 (x_4.1 ≤ (List.getD s x.1 Pl.dY).2.1.length ∧ x_4.2.1.length = x_4.1 ∧ p ≤ x_4.2.2.2 ∧ x_4.2.2.2 ≤ p + (100 : Int) * (↑x.1 : Int) + (3 : Int) + (30 : Int) * ((3 : Int) - x_2.1) + (2 : Int) * (↑x_4.1 : Int)) ∧ ((0 : Nat) = (0 : Nat) ∧ (0 : Nat) = (0 : Nat) ∧ (0 : Nat) = (0 : Nat) ∧ ((0 : Nat) = (0 : Nat) ∧ List.length x_2.2.1 = List.length x_2.2.1) ∧ (↑x.1 : Int) = (↑x.1 : Int) ∧ x_2.1 = x_2.1 ∧ (0 : Nat) = (0 : Nat) ∧ (0 : Int) = (↑x_4.1 : Int) ∧ True) ∧ (Is (byts x_3.1) (byts b) ∧ y.2 = x_4.2.2.2 ∧ True) ∧ (Is (syms s) (syms s) ∧ True) ∧ (Is (AV.lit (0 : Nat) (1 : Nat) fun (x x_5 : Nat) => AV.any) nilA ∧ True) ∧ IsO (xrR x_2.2.1) (xrR x_2.2.1) ∧ ((List.getD s x.1 Pl.dY).1 = (List.getD s x.1 Pl.dY).1 ∧ ((0 : Nat) = (0 : Nat) ∧ (0 : Nat) = (0 : Nat) ∧ x_4.2.1.length = (0 : Nat)) ∧ y.1.1 = x_4.2.2.1.1 ∧ y.1.2 = x_4.2.2.1.2 ∧ True) ∧ x_4.2.1.length = (0 : Nat) ∧ True) ∧ ∀ (x_4 : Nat × List Pl.Rt × Pl.Rt × Int),
 x_4.1 ≤ (List.getD s x.1 Pl.dY).2.1.length ∧ x_4.2.1.length = x_4.1 ∧ p ≤ x_4.2.2.2 ∧ x_4.2.2.2 ≤ p + (100 : Int) * (↑x.1 : Int) + (3 : Int) + (30 : Int) * ((3 : Int) - x_2.1) + (2 : Int) * (↑x_4.1 : Int) →
 ((0 : Int) ≤ (↑x.1 : Int) ∧ (↑x.1 : Int) < (↑(List.length s) : Int)) ∧ x.1 < List.length s ∧ condP (decide ((↑x_4.1 : Int) < (↑(List.getD s x.1 Pl.dY).2.1.length : Int)))
 ((((0 : Int) ≤ (↑x.1 : Int) ∧ (↑x.1 : Int) < (↑(List.length s) : Int)) ∧ x.1 < List.length s ∧ ((0 : Int) ≤ (↑x_4.1 : Int) ∧ (↑x_4.1 : Int) < (↑(List.getD s x.1 Pl.dY).2.1.length : Int)) ∧ x_4.1 < (List.getD s x.1 Pl.dY).2.1.length ∧ ∃ x_5 : List Int × Int × Int,
 Rd (549755813888 : Int) x_5.1 x_5.2.1 ∧ (((0 : Nat) = (0 : Nat) ∧ (List.getD s x.1 Pl.dY).2.1.getD x_4.1 (0 : Int) = x_5.2.2 ∧ True) ∧ (Is (byts b) (byts x_5.1) ∧ x_4.2.2.2 = x_5.2.1 ∧ True) ∧ True) ∧ ∀ (y : Pl.Rt × Int),
 x_5.2.1 ≤ y.2 ∧ y.2 ≤ x_5.2.1 + (2 : Int) →
 (0 : Nat) + x_4.2.1.length ≤ x_4.2.1.length ∧ (x_4.2.1.length + (1 : Nat)) * (16 : Nat) ≤ (70368744177664 : Nat) ∧ Exists fun (x' : Nat × List Pl.Rt × Pl.Rt × Int) =>
 (x'.1 ≤ (List.getD s x.1 Pl.dY).2.1.length ∧ x'.2.1.length = x'.1 ∧ p ≤ x'.2.2.2 ∧ x'.2.2.2 ≤
 p + (100 : Int) * (↑x.1 : Int) + (3 : Int) + (30 : Int) * ((3 : Int) - x_2.1) +
 (2 : Int) * (↑x'.1 : Int)) ∧ (List.getD s x.1 Pl.dY).2.1.length - x'.1 < (List.getD s x.1 Pl.dY).2.1.length - x_4.1 ∧ ((0 : Nat) = (0 : Nat) ∧ (0 : Nat) = (0 : Nat) ∧ (0 : Nat) = (0 : Nat) ∧ ((0 : Nat) = (0 : Nat) ∧ List.length x_2.2.1 = List.length x_2.2.1) ∧ (↑x.1 : Int) = (↑x.1 : Int) ∧ x_2.1 = x_2.1 ∧ (0 : Nat) = (0 : Nat) ∧ IntKind.i64.wrap ((↑x_4.1 : Int) + (1 : Int)) = (↑x'.1 : Int) ∧ True) ∧ (Is (byts x_5.1) (byts b) ∧ y.2 = x'.2.2.2 ∧ True) ∧ (Is (syms s) (syms s) ∧ True) ∧ (Is (AV.lit (0 : Nat) (1 : Nat) fun (x x_6 : Nat) => AV.any) nilA ∧ True) ∧ IsO (xrR x_2.2.1) (xrR x_2.2.1) ∧ ((List.getD s x.1 Pl.dY).1 = (List.getD s x.1 Pl.dY).1 ∧ ((0 : Nat) = (0 : Nat) ∧ x_4.2.1.length + (1 : Nat) = x'.2.1.length) ∧ x_4.2.2.1.1 = x'.2.2.1.1 ∧ x_4.2.2.1.2 = x'.2.2.1.2 ∧ True) ∧ IsO
 (AObj.arr (x_4.2.1.length + (1 : Nat)) (2 : Nat)
 (joinC x_4.2.1.length (cQ x_4.2.1)
 (rowsCell [[i64 y.1.1, i64 y.1.2]])))
 (arQ x'.2.1) ∧ True) ∧ ((0 : Int) ≤ (↑x.1 : Int) ∧ (↑x.1 : Int) < (↑(List.length s) : Int)) ∧ x.1 < List.length s ∧ ((0 : Int) ≤ (↑x_4.1 : Int) ∧ (↑x_4.1 : Int) < (↑(List.getD s x.1 Pl.dY).2.1.length : Int)) ∧ x_4.1 < (List.getD s x.1 Pl.dY).2.1.length ∧ (∃ x_5 : List Int × Int × Int,
 Rd (549755813888 : Int) x_5.1 x_5.2.1 ∧ (((0 : Nat) = (0 : Nat) ∧ (List.getD s x.1 Pl.dY).2.1.getD x_4.1 (0 : Int) = x_5.2.2 ∧ True) ∧ (Is (byts b) (byts x_5.1) ∧ x_4.2.2.2 = x_5.2.1 ∧ True) ∧ True) ∧ ∀ (y : Pl.Rt × Int),
 x_5.2.1 ≤ y.2 ∧ y.2 ≤ x_5.2.1 + (2 : Int) →
 (0 : Nat) + x_4.2.1.length ≤ x_4.2.1.length ∧ (x_4.2.1.length + (1 : Nat)) * (16 : Nat) ≤ (70368744177664 : Nat) ∧ Exists fun (x' : Nat × List Pl.Rt × Pl.Rt × Int) =>
 (x'.1 ≤ (List.getD s x.1 Pl.dY).2.1.length ∧ x'.2.1.length = x'.1 ∧ p ≤ x'.2.2.2 ∧ x'.2.2.2 ≤
 p + (100 : Int) * (↑x.1 : Int) + (3 : Int) + (30 : Int) * ((3 : Int) - x_2.1) +
 (2 : Int) * (↑x'.1 : Int)) ∧ (List.getD s x.1 Pl.dY).2.1.length - x'.1 < (List.getD s x.1 Pl.dY).2.1.length - x_4.1 ∧ ((0 : Nat) = (0 : Nat) ∧ (0 : Nat) = (0 : Nat) ∧ (0 : Nat) = (0 : Nat) ∧ ((0 : Nat) = (0 : Nat) ∧ List.length x_2.2.1 = List.length x_2.2.1) ∧ (↑x.1 : Int) = (↑x.1 : Int) ∧ x_2.1 = x_2.1 ∧ (0 : Nat) = (0 : Nat) ∧ IntKind.i64.wrap ((↑x_4.1 : Int) + (1 : Int)) = (↑x'.1 : Int) ∧ True) ∧ (Is (byts x_5.1) (byts b) ∧ y.2 = x'.2.2.2 ∧ True) ∧ (Is (syms s) (syms s) ∧ True) ∧ (Is (AV.lit (0 : Nat) (1 : Nat) fun (x x_6 : Nat) => AV.any) nilA ∧ True) ∧ IsO (xrR x_2.2.1) (xrR x_2.2.1) ∧ ((List.getD s x.1 Pl.dY).1 = (List.getD s x.1 Pl.dY).1 ∧ ((0 : Nat) = (0 : Nat) ∧ x_4.2.1.length + (1 : Nat) = x'.2.1.length) ∧ x_4.2.2.1.1 = x'.2.2.1.1 ∧ x_4.2.2.1.2 = x'.2.2.1.2 ∧ True) ∧ IsO
 (AObj.arr (x_4.2.1.length + (1 : Nat)) (2 : Nat)
 (joinC x_4.2.1.length (cQ x_4.2.1)
 (rowsCell [[i64 y.1.1, i64 y.1.2]])))
 (arQ x'.2.1) ∧ True) ∧ ∃ x_5 : List Int × Int × Int,
 Rd (549755813888 : Int) x_5.1 x_5.2.1 ∧ (((0 : Nat) = (0 : Nat) ∧ (List.getD s x.1 Pl.dY).2.1.getD x_4.1 (0 : Int) = x_5.2.2 ∧ True) ∧ (Is (byts b) (byts x_5.1) ∧ x_4.2.2.2 = x_5.2.1 ∧ True) ∧ True) ∧ ∀ (y : Pl.Rt × Int),
 x_5.2.1 ≤ y.2 ∧ y.2 ≤ x_5.2.1 + (2 : Int) →
 (0 : Nat) + x_4.2.1.length ≤ x_4.2.1.length ∧ (x_4.2.1.length + (1 : Nat)) * (16 : Nat) ≤ (70368744177664 : Nat) ∧ Exists fun (x' : Nat × List Pl.Rt × Pl.Rt × Int) =>
 (x'.1 ≤ (List.getD s x.1 Pl.dY).2.1.length ∧ x'.2.1.length = x'.1 ∧ p ≤ x'.2.2.2 ∧ x'.2.2.2 ≤
 p + (100 : Int) * (↑x.1 : Int) + (3 : Int) + (30 : Int) * ((3 : Int) - x_2.1) +
 (2 : Int) * (↑x'.1 : Int)) ∧ (List.getD s x.1 Pl.dY).2.1.length - x'.1 < (List.getD s x.1 Pl.dY).2.1.length - x_4.1 ∧ ((0 : Nat) = (0 : Nat) ∧ (0 : Nat) = (0 : Nat) ∧ (0 : Nat) = (0 : Nat) ∧ ((0 : Nat) = (0 : Nat) ∧ List.length x_2.2.1 = List.length x_2.2.1) ∧ (↑x.1 : Int) = (↑x.1 : Int) ∧ x_2.1 = x_2.1 ∧ (0 : Nat) = (0 : Nat) ∧ IntKind.i64.wrap ((↑x_4.1 : Int) + (1 : Int)) = (↑x'.1 : Int) ∧ True) ∧ (Is (byts x_5.1) (byts b) ∧ y.2 = x'.2.2.2 ∧ True) ∧ (Is (syms s) (syms s) ∧ True) ∧ (Is (AV.lit (0 : Nat) (1 : Nat) fun (x x_6 : Nat) => AV.any) nilA ∧ True) ∧ IsO (xrR x_2.2.1) (xrR x_2.2.1) ∧ ((List.getD s x.1 Pl.dY).1 = (List.getD s x.1 Pl.dY).1 ∧ ((0 : Nat) = (0 : Nat) ∧ x_4.2.1.length + (1 : Nat) = x'.2.1.length) ∧ x_4.2.2.1.1 = x'.2.2.1.1 ∧ x_4.2.2.1.2 = x'.2.2.1.2 ∧ True) ∧ IsO
 (AObj.arr (x_4.2.1.length + (1 : Nat)) (2 : Nat)
 (joinC x_4.2.1.length (cQ x_4.2.1)
 (rowsCell [[i64 y.1.1, i64 y.1.2]])))
 (arQ x'.2.1) ∧ True)
 (∃ x_5 : List Pl.Rw × Pl.Rw,
 (x_5.1.length ≤ (1000 : Nat) ∧ (∀ (y : Pl.Rw), y ∈ x_5.1 → y.2.1.length ≤ (1000 : Nat)) ∧ x_5.2.2.1.length ≤ (1000 : Nat)) ∧ ((((0 : Nat) = (0 : Nat) ∧ List.length x_2.2.1 = x_5.1.length) ∧ ((List.getD s x.1 Pl.dY).1 = x_5.2.1 ∧ ((0 : Nat) = (0 : Nat) ∧ x_4.2.1.length = x_5.2.2.1.length) ∧ x_4.2.2.1.1 = x_5.2.2.2.1 ∧ x_4.2.2.1.2 = x_5.2.2.2.2 ∧ True) ∧ True) ∧ IsO (xrR x_2.2.1) (xrR x_5.1) ∧ IsO (arQ x_4.2.1) (arQ x_5.2.2.1) ∧ True) ∧ ∀ (y : List Nat),
 HPut x_5.1.length y →
 Exists fun (x' : Int × Pl.Mdl × Int) =>
 ((0 : Int) ≤ x'.1 ∧ x'.1 ≤ (3 : Int) ∧ Pl.MdB ((3 : Nat) * x.1 + (3 : Nat) - x'.1.toNat) (2 : Nat) x'.2.1 ∧ p ≤ x'.2.2 ∧ x'.2.2 ≤ p + (100 : Int) * (↑x.1 : Int) + (1 : Int) + (30 : Int) * ((3 : Int) - x'.1)) ∧ x'.1.toNat < x_2.1.toNat ∧ ((0 : Nat) = (0 : Nat) ∧ (0 : Nat) = (0 : Nat) ∧ (0 : Nat) = (0 : Nat) ∧ ((0 : Nat) = (0 : Nat) ∧ y.length = List.length x'.2.1) ∧ (↑x.1 : Int) = (↑x.1 : Int) ∧ IntKind.i64.wrap (x_2.1 - (1 : Int)) = x'.1 ∧ True) ∧ (Is (byts b) (byts b) ∧ x_4.2.2.2 = x'.2.2 ∧ True) ∧ (Is (syms s) (syms s) ∧ True) ∧ (Is (AV.lit (0 : Nat) (1 : Nat) fun (x x_6 : Nat) => AV.any) nilA ∧ True) ∧ IsO (xrR (List.map (fun (i : Nat) => (x_5.1 ++ [x_5.2]).getD i Pl.dR) y)) (xrR x'.2.1) ∧ True)) ∧ ((0 : Int) ≤ (↑x.1 : Int) ∧ (↑x.1 : Int) < (↑(List.length s) : Int)) ∧ x.1 < List.length s ∧ ∃ x_3 : List Int × Int × Int,
 Rd (549755813888 : Int) x_3.1 x_3.2.1 ∧ (((0 : Nat) = (0 : Nat) ∧ (List.getD s x.1 Pl.dY).2.2 = x_3.2.2 ∧ True) ∧ (Is (byts b) (byts x_3.1) ∧ x_2.2.2 = x_3.2.1 ∧ True) ∧ True) ∧ ∀ (y : Pl.Rt × Int),
 x_3.2.1 ≤ y.2 ∧ y.2 ≤ x_3.2.1 + (2 : Int) →
 (∃ x_4 : Nat × List Pl.Rt × Pl.Rt × Int,
 (x_4.1 ≤ (List.getD s x.1 Pl.dY).2.1.length ∧ x_4.2.1.length = x_4.1 ∧ p ≤ x_4.2.2.2 ∧ x_4.2.2.2 ≤ p + (100 : Int) * (↑x.1 : Int) + (3 : Int) + (30 : Int) * ((3 : Int) - x_2.1) + (2 : Int) * (↑x_4.1 : Int)) ∧ ((0 : Nat) = (0 : Nat) ∧ (0 : Nat) = (0 : Nat) ∧ (0 : Nat) = (0 : Nat) ∧ ((0 : Nat) = (0 : Nat) ∧ List.length x_2.2.1 = List.length x_2.2.1) ∧ (↑x.1 : Int) = (↑x.1 : Int) ∧ x_2.1 = x_2.1 ∧ (0 : Nat) = (0 : Nat) ∧ (0 : Int) = (↑x_4.1 : Int) ∧ True) ∧ (Is (byts x_3.1) (byts b) ∧ y.2 = x_4.2.2.2 ∧ True) ∧ (Is (syms s) (syms s) ∧ True) ∧ (Is (AV.lit (0 : Nat) (1 : Nat) fun (x x_5 : Nat) => AV.any) nilA ∧ True) ∧ IsO (xrR x_2.2.1) (xrR x_2.2.1) ∧ ((List.getD s x.1 Pl.dY).1 = (List.getD s x.1 Pl.dY).1 ∧ ((0 : Nat) = (0 : Nat) ∧ (0 : Nat) = (0 : Nat) ∧ x_4.2.1.length = (0 : Nat)) ∧ y.1.1 = x_4.2.2.1.1 ∧ y.1.2 = x_4.2.2.1.2 ∧ True) ∧ x_4.2.1.length = (0 : Nat) ∧ True) ∧ ∀ (x_4 : Nat × List Pl.Rt × Pl.Rt × Int),
 x_4.1 ≤ (List.getD s x.1 Pl.dY).2.1.length ∧ x_4.2.1.length = x_4.1 ∧ p ≤ x_4.2.2.2 ∧ x_4.2.2.2 ≤ p + (100 : Int) * (↑x.1 : Int) + (3 : Int) + (30 : Int) * ((3 : Int) - x_2.1) + (2 : Int) * (↑x_4.1 : Int) →
 ((0 : Int) ≤ (↑x.1 : Int) ∧ (↑x.1 : Int) < (↑(List.length s) : Int)) ∧ x.1 < List.length s ∧ condP (decide ((↑x_4.1 : Int) < (↑(List.getD s x.1 Pl.dY).2.1.length : Int)))
 ((((0 : Int) ≤ (↑x.1 : Int) ∧ (↑x.1 : Int) < (↑(List.length s) : Int)) ∧ x.1 < List.length s ∧ ((0 : Int) ≤ (↑x_4.1 : Int) ∧ (↑x_4.1 : Int) < (↑(List.getD s x.1 Pl.dY).2.1.length : Int)) ∧ x_4.1 < (List.getD s x.1 Pl.dY).2.1.length ∧ ∃ x_5 : List Int × Int × Int,
 Rd (549755813888 : Int) x_5.1 x_5.2.1 ∧ (((0 : Nat) = (0 : Nat) ∧ (List.getD s x.1 Pl.dY).2.1.getD x_4.1 (0 : Int) = x_5.2.2 ∧ True) ∧ (Is (byts b) (byts x_5.1) ∧ x_4.2.2.2 = x_5.2.1 ∧ True) ∧ True) ∧ ∀ (y : Pl.Rt × Int),
 x_5.2.1 ≤ y.2 ∧ y.2 ≤ x_5.2.1 + (2 : Int) →
 (0 : Nat) + x_4.2.1.length ≤ x_4.2.1.length ∧ (x_4.2.1.length + (1 : Nat)) * (16 : Nat) ≤ (70368744177664 : Nat) ∧ Exists fun (x' : Nat × List Pl.Rt × Pl.Rt × Int) =>
 (x'.1 ≤ (List.getD s x.1 Pl.dY).2.1.length ∧ x'.2.1.length = x'.1 ∧ p ≤ x'.2.2.2 ∧ x'.2.2.2 ≤
 p + (100 : Int) * (↑x.1 : Int) + (3 : Int) + (30 : Int) * ((3 : Int) - x_2.1) +
 (2 : Int) * (↑x'.1 : Int)) ∧ (List.getD s x.1 Pl.dY).2.1.length - x'.1 < (List.getD s x.1 Pl.dY).2.1.length - x_4.1 ∧ ((0 : Nat) = (0 : Nat) ∧ (0 : Nat) = (0 : Nat) ∧ (0 : Nat) = (0 : Nat) ∧ ((0 : Nat) = (0 : Nat) ∧ List.length x_2.2.1 = List.length x_2.2.1) ∧ (↑x.1 : Int) = (↑x.1 : Int) ∧ x_2.1 = x_2.1 ∧ (0 : Nat) = (0 : Nat) ∧ IntKind.i64.wrap ((↑x_4.1 : Int) + (1 : Int)) = (↑x'.1 : Int) ∧ True) ∧ (Is (byts x_5.1) (byts b) ∧ y.2 = x'.2.2.2 ∧ True) ∧ (Is (syms s) (syms s) ∧ True) ∧ (Is (AV.lit (0 : Nat) (1 : Nat) fun (x x_6 : Nat) => AV.any) nilA ∧ True) ∧ IsO (xrR x_2.2.1) (xrR x_2.2.1) ∧ ((List.getD s x.1 Pl.dY).1 = (List.getD s x.1 Pl.dY).1 ∧ ((0 : Nat) = (0 : Nat) ∧ x_4.2.1.length + (1 : Nat) = x'.2.1.length) ∧ x_4.2.2.1.1 = x'.2.2.1.1 ∧ x_4.2.2.1.2 = x'.2.2.1.2 ∧ True) ∧ IsO
 (AObj.arr (x_4.2.1.length + (1 : Nat)) (2 : Nat)
 (joinC x_4.2.1.length (cQ x_4.2.1)
 (rowsCell [[i64 y.1.1, i64 y.1.2]])))
 (arQ x'.2.1) ∧ True) ∧ ((0 : Int) ≤ (↑x.1 : Int) ∧ (↑x.1 : Int) < (↑(List.length s) : Int)) ∧ x.1 < List.length s ∧ ((0 : Int) ≤ (↑x_4.1 : Int) ∧ (↑x_4.1 : Int) < (↑(List.getD s x.1 Pl.dY).2.1.length : Int)) ∧ x_4.1 < (List.getD s x.1 Pl.dY).2.1.length ∧ (∃ x_5 : List Int × Int × Int,
 Rd (549755813888 : Int) x_5.1 x_5.2.1 ∧ (((0 : Nat) = (0 : Nat) ∧ (List.getD s x.1 Pl.dY).2.1.getD x_4.1 (0 : Int) = x_5.2.2 ∧ True) ∧ (Is (byts b) (byts x_5.1) ∧ x_4.2.2.2 = x_5.2.1 ∧ True) ∧ True) ∧ ∀ (y : Pl.Rt × Int),
 x_5.2.1 ≤ y.2 ∧ y.2 ≤ x_5.2.1 + (2 : Int) →
 (0 : Nat) + x_4.2.1.length ≤ x_4.2.1.length ∧ (x_4.2.1.length + (1 : Nat)) * (16 : Nat) ≤ (70368744177664 : Nat) ∧ Exists fun (x' : Nat × List Pl.Rt × Pl.Rt × Int) =>
 (x'.1 ≤ (List.getD s x.1 Pl.dY).2.1.length ∧ x'.2.1.length = x'.1 ∧ p ≤ x'.2.2.2 ∧ x'.2.2.2 ≤
 p + (100 : Int) * (↑x.1 : Int) + (3 : Int) + (30 : Int) * ((3 : Int) - x_2.1) +
 (2 : Int) * (↑x'.1 : Int)) ∧ (List.getD s x.1 Pl.dY).2.1.length - x'.1 < (List.getD s x.1 Pl.dY).2.1.length - x_4.1 ∧ ((0 : Nat) = (0 : Nat) ∧ (0 : Nat) = (0 : Nat) ∧ (0 : Nat) = (0 : Nat) ∧ ((0 : Nat) = (0 : Nat) ∧ List.length x_2.2.1 = List.length x_2.2.1) ∧ (↑x.1 : Int) = (↑x.1 : Int) ∧ x_2.1 = x_2.1 ∧ (0 : Nat) = (0 : Nat) ∧ IntKind.i64.wrap ((↑x_4.1 : Int) + (1 : Int)) = (↑x'.1 : Int) ∧ True) ∧ (Is (byts x_5.1) (byts b) ∧ y.2 = x'.2.2.2 ∧ True) ∧ (Is (syms s) (syms s) ∧ True) ∧ (Is (AV.lit (0 : Nat) (1 : Nat) fun (x x_6 : Nat) => AV.any) nilA ∧ True) ∧ IsO (xrR x_2.2.1) (xrR x_2.2.1) ∧ ((List.getD s x.1 Pl.dY).1 = (List.getD s x.1 Pl.dY).1 ∧ ((0 : Nat) = (0 : Nat) ∧ x_4.2.1.length + (1 : Nat) = x'.2.1.length) ∧ x_4.2.2.1.1 = x'.2.2.1.1 ∧ x_4.2.2.1.2 = x'.2.2.1.2 ∧ True) ∧ IsO
 (AObj.arr (x_4.2.1.length + (1 : Nat)) (2 : Nat)
 (joinC x_4.2.1.length (cQ x_4.2.1)
 (rowsCell [[i64 y.1.1, i64 y.1.2]])))
 (arQ x'.2.1) ∧ True) ∧ ∃ x_5 : List Int × Int × Int,
 Rd (549755813888 : Int) x_5.1 x_5.2.1 ∧ (((0 : Nat) = (0 : Nat) ∧ (List.getD s x.1 Pl.dY).2.1.getD x_4.1 (0 : Int) = x_5.2.2 ∧ True) ∧ (Is (byts b) (byts x_5.1) ∧ x_4.2.2.2 = x_5.2.1 ∧ True) ∧ True) ∧ ∀ (y : Pl.Rt × Int),
 x_5.2.1 ≤ y.2 ∧ y.2 ≤ x_5.2.1 + (2 : Int) →
 (0 : Nat) + x_4.2.1.length ≤ x_4.2.1.length ∧ (x_4.2.1.length + (1 : Nat)) * (16 : Nat) ≤ (70368744177664 : Nat) ∧ Exists fun (x' : Nat × List Pl.Rt × Pl.Rt × Int) =>
 (x'.1 ≤ (List.getD s x.1 Pl.dY).2.1.length ∧ x'.2.1.length = x'.1 ∧ p ≤ x'.2.2.2 ∧ x'.2.2.2 ≤
 p + (100 : Int) * (↑x.1 : Int) + (3 : Int) + (30 : Int) * ((3 : Int) - x_2.1) +
 (2 : Int) * (↑x'.1 : Int)) ∧ (List.getD s x.1 Pl.dY).2.1.length - x'.1 < (List.getD s x.1 Pl.dY).2.1.length - x_4.1 ∧ ((0 : Nat) = (0 : Nat) ∧ (0 : Nat) = (0 : Nat) ∧ (0 : Nat) = (0 : Nat) ∧ ((0 : Nat) = (0 : Nat) ∧ List.length x_2.2.1 = List.length x_2.2.1) ∧ (↑x.1 : Int) = (↑x.1 : Int) ∧ x_2.1 = x_2.1 ∧ (0 : Nat) = (0 : Nat) ∧ IntKind.i64.wrap ((↑x_4.1 : Int) + (1 : Int)) = (↑x'.1 : Int) ∧ True) ∧ (Is (byts x_5.1) (byts b) ∧ y.2 = x'.2.2.2 ∧ True) ∧ (Is (syms s) (syms s) ∧ True) ∧ (Is (AV.lit (0 : Nat) (1 : Nat) fun (x x_6 : Nat) => AV.any) nilA ∧ True) ∧ IsO (xrR x_2.2.1) (xrR x_2.2.1) ∧ ((List.getD s x.1 Pl.dY).1 = (List.getD s x.1 Pl.dY).1 ∧ ((0 : Nat) = (0 : Nat) ∧ x_4.2.1.length + (1 : Nat) = x'.2.1.length) ∧ x_4.2.2.1.1 = x'.2.2.1.1 ∧ x_4.2.2.1.2 = x'.2.2.1.2 ∧ True) ∧ IsO
 (AObj.arr (x_4.2.1.length + (1 : Nat)) (2 : Nat)
 (joinC x_4.2.1.length (cQ x_4.2.1)
 (rowsCell [[i64 y.1.1, i64 y.1.2]])))
 (arQ x'.2.1) ∧ True)
 (∃ x_5 : List Pl.Rw × Pl.Rw,
 (x_5.1.length ≤ (1000 : Nat) ∧ (∀ (y : Pl.Rw), y ∈ x_5.1 → y.2.1.length ≤ (1000 : Nat)) ∧ x_5.2.2.1.length ≤ (1000 : Nat)) ∧ ((((0 : Nat) = (0 : Nat) ∧ List.length x_2.2.1 = x_5.1.length) ∧ ((List.getD s x.1 Pl.dY).1 = x_5.2.1 ∧ ((0 : Nat) = (0 : Nat) ∧ x_4.2.1.length = x_5.2.2.1.length) ∧ x_4.2.2.1.1 = x_5.2.2.2.1 ∧ x_4.2.2.1.2 = x_5.2.2.2.2 ∧ True) ∧ True) ∧ IsO (xrR x_2.2.1) (xrR x_5.1) ∧ IsO (arQ x_4.2.1) (arQ x_5.2.2.1) ∧ True) ∧ ∀ (y : List Nat),
 HPut x_5.1.length y →
 Exists fun (x' : Int × Pl.Mdl × Int) =>
 ((0 : Int) ≤ x'.1 ∧ x'.1 ≤ (3 : Int) ∧ Pl.MdB ((3 : Nat) * x.1 + (3 : Nat) - x'.1.toNat) (2 : Nat) x'.2.1 ∧ p ≤ x'.2.2 ∧ x'.2.2 ≤ p + (100 : Int) * (↑x.1 : Int) + (1 : Int) + (30 : Int) * ((3 : Int) - x'.1)) ∧ x'.1.toNat < x_2.1.toNat ∧ ((0 : Nat) = (0 : Nat) ∧ (0 : Nat) = (0 : Nat) ∧ (0 : Nat) = (0 : Nat) ∧ ((0 : Nat) = (0 : Nat) ∧ y.length = List.length x'.2.1) ∧ (↑x.1 : Int) = (↑x.1 : Int) ∧ IntKind.i64.wrap (x_2.1 - (1 : Int)) = x'.1 ∧ True) ∧ (Is (byts b) (byts b) ∧ x_4.2.2.2 = x'.2.2 ∧ True) ∧ (Is (syms s) (syms s) ∧ True) ∧ (Is (AV.lit (0 : Nat) (1 : Nat) fun (x x_6 : Nat) => AV.any) nilA ∧ True) ∧ IsO (xrR (List.map (fun (i : Nat) => (x_5.1 ++ [x_5.2]).getD i Pl.dR) y)) (xrR x'.2.1) ∧ True)) ∧ (((0 : Int) ≤ (↑x.1 : Int) ∧ (↑x.1 : Int) < (↑(List.length s) : Int)) ∧ x.1 < List.length s ∧ (((0 : Int) ≤ (↑x.1 : Int) ∧ (↑x.1 : Int) < (↑(List.length s) : Int)) ∧ x.1 < List.length s ∧ (∃ x_3 : List Int × Int × Int,
 Rd (549755813888 : Int) x_3.1 x_3.2.1 ∧ (((0 : Nat) = (0 : Nat) ∧ (List.getD s x.1 Pl.dY).2.2 = x_3.2.2 ∧ True) ∧ (Is (byts b) (byts x_3.1) ∧ x_2.2.2 = x_3.2.1 ∧ True) ∧ True) ∧ ∀ (y : Pl.Rt × Int),
 x_3.2.1 ≤ y.2 ∧ y.2 ≤ x_3.2.1 + (2 : Int) →
 (∃ x_4 : Nat × List Pl.Rt × Pl.Rt × Int,
 (x_4.1 ≤ (List.getD s x.1 Pl.dY).2.1.length ∧ x_4.2.1.length = x_4.1 ∧ p ≤ x_4.2.2.2 ∧ x_4.2.2.2 ≤ p + (100 : Int) * (↑x.1 : Int) + (3 : Int) + (30 : Int) * ((3 : Int) - x_2.1) + (2 : Int) * (↑x_4.1 : Int)) ∧ ((0 : Nat) = (0 : Nat) ∧ (0 : Nat) = (0 : Nat) ∧ (0 : Nat) = (0 : Nat) ∧ ((0 : Nat) = (0 : Nat) ∧ List.length x_2.2.1 = List.length x_2.2.1) ∧ (↑x.1 : Int) = (↑x.1 : Int) ∧ x_2.1 = x_2.1 ∧ (0 : Nat) = (0 : Nat) ∧ (0 : Int) = (↑x_4.1 : Int) ∧ True) ∧ (Is (byts x_3.1) (byts b) ∧ y.2 = x_4.2.2.2 ∧ True) ∧ (Is (syms s) (syms s) ∧ True) ∧ (Is (AV.lit (0 : Nat) (1 : Nat) fun (x x_5 : Nat) => AV.any) nilA ∧ True) ∧ IsO (xrR x_2.2.1) (xrR x_2.2.1) ∧ ((List.getD s x.1 Pl.dY).1 = (List.getD s x.1 Pl.dY).1 ∧ ((0 : Nat) = (0 : Nat) ∧ (0 : Nat) = (0 : Nat) ∧ x_4.2.1.length = (0 : Nat)) ∧ y.1.1 = x_4.2.2.1.1 ∧ y.1.2 = x_4.2.2.1.2 ∧ True) ∧ x_4.2.1.length = (0 : Nat) ∧ True) ∧ ∀ (x_4 : Nat × List Pl.Rt × Pl.Rt × Int),
 x_4.1 ≤ (List.getD s x.1 Pl.dY).2.1.length ∧ x_4.2.1.length = x_4.1 ∧ p ≤ x_4.2.2.2 ∧ x_4.2.2.2 ≤ p + (100 : Int) * (↑x.1 : Int) + (3 : Int) + (30 : Int) * ((3 : Int) - x_2.1) + (2 : Int) * (↑x_4.1 : Int) →
 ((0 : Int) ≤ (↑x.1 : Int) ∧ (↑x.1 : Int) < (↑(List.length s) : Int)) ∧ x.1 < List.length s ∧ condP (decide ((↑x_4.1 : Int) < (↑(List.getD s x.1 Pl.dY).2.1.length : Int)))
 ((((0 : Int) ≤ (↑x.1 : Int) ∧ (↑x.1 : Int) < (↑(List.length s) : Int)) ∧ x.1 < List.length s ∧ ((0 : Int) ≤ (↑x_4.1 : Int) ∧ (↑x_4.1 : Int) < (↑(List.getD s x.1 Pl.dY).2.1.length : Int)) ∧ x_4.1 < (List.getD s x.1 Pl.dY).2.1.length ∧ ∃ x_5 : List Int × Int × Int,
 Rd (549755813888 : Int) x_5.1 x_5.2.1 ∧ (((0 : Nat) = (0 : Nat) ∧ (List.getD s x.1 Pl.dY).2.1.getD x_4.1 (0 : Int) = x_5.2.2 ∧ True) ∧ (Is (byts b) (byts x_5.1) ∧ x_4.2.2.2 = x_5.2.1 ∧ True) ∧ True) ∧ ∀ (y : Pl.Rt × Int),
 x_5.2.1 ≤ y.2 ∧ y.2 ≤ x_5.2.1 + (2 : Int) →
 (0 : Nat) + x_4.2.1.length ≤ x_4.2.1.length ∧ (x_4.2.1.length + (1 : Nat)) * (16 : Nat) ≤ (70368744177664 : Nat) ∧ Exists fun (x' : Nat × List Pl.Rt × Pl.Rt × Int) =>
 (x'.1 ≤ (List.getD s x.1 Pl.dY).2.1.length ∧ x'.2.1.length = x'.1 ∧ p ≤ x'.2.2.2 ∧ x'.2.2.2 ≤
 p + (100 : Int) * (↑x.1 : Int) + (3 : Int) + (30 : Int) * ((3 : Int) - x_2.1) +
 (2 : Int) * (↑x'.1 : Int)) ∧ (List.getD s x.1 Pl.dY).2.1.length - x'.1 < (List.getD s x.1 Pl.dY).2.1.length - x_4.1 ∧ ((0 : Nat) = (0 : Nat) ∧ (0 : Nat) = (0 : Nat) ∧ (0 : Nat) = (0 : Nat) ∧ ((0 : Nat) = (0 : Nat) ∧ List.length x_2.2.1 = List.length x_2.2.1) ∧ (↑x.1 : Int) = (↑x.1 : Int) ∧ x_2.1 = x_2.1 ∧ (0 : Nat) = (0 : Nat) ∧ IntKind.i64.wrap ((↑x_4.1 : Int) + (1 : Int)) = (↑x'.1 : Int) ∧ True) ∧ (Is (byts x_5.1) (byts b) ∧ y.2 = x'.2.2.2 ∧ True) ∧ (Is (syms s) (syms s) ∧ True) ∧ (Is (AV.lit (0 : Nat) (1 : Nat) fun (x x_6 : Nat) => AV.any) nilA ∧ True) ∧ IsO (xrR x_2.2.1) (xrR x_2.2.1) ∧ ((List.getD s x.1 Pl.dY).1 = (List.getD s x.1 Pl.dY).1 ∧ ((0 : Nat) = (0 : Nat) ∧ x_4.2.1.length + (1 : Nat) = x'.2.1.length) ∧ x_4.2.2.1.1 = x'.2.2.1.1 ∧ x_4.2.2.1.2 = x'.2.2.1.2 ∧ True) ∧ IsO
 (AObj.arr (x_4.2.1.length + (1 : Nat)) (2 : Nat)
 (joinC x_4.2.1.length (cQ x_4.2.1)
 (rowsCell [[i64 y.1.1, i64 y.1.2]])))
 (arQ x'.2.1) ∧ True) ∧ ((0 : Int) ≤ (↑x.1 : Int) ∧ (↑x.1 : Int) < (↑(List.length s) : Int)) ∧ x.1 < List.length s ∧ ((0 : Int) ≤ (↑x_4.1 : Int) ∧ (↑x_4.1 : Int) < (↑(List.getD s x.1 Pl.dY).2.1.length : Int)) ∧ x_4.1 < (List.getD s x.1 Pl.dY).2.1.length ∧ (∃ x_5 : List Int × Int × Int,
 Rd (549755813888 : Int) x_5.1 x_5.2.1 ∧ (((0 : Nat) = (0 : Nat) ∧ (List.getD s x.1 Pl.dY).2.1.getD x_4.1 (0 : Int) = x_5.2.2 ∧ True) ∧ (Is (byts b) (byts x_5.1) ∧ x_4.2.2.2 = x_5.2.1 ∧ True) ∧ True) ∧ ∀ (y : Pl.Rt × Int),
 x_5.2.1 ≤ y.2 ∧ y.2 ≤ x_5.2.1 + (2 : Int) →
 (0 : Nat) + x_4.2.1.length ≤ x_4.2.1.length ∧ (x_4.2.1.length + (1 : Nat)) * (16 : Nat) ≤ (70368744177664 : Nat) ∧ Exists fun (x' : Nat × List Pl.Rt × Pl.Rt × Int) =>
 (x'.1 ≤ (List.getD s x.1 Pl.dY).2.1.length ∧ x'.2.1.length = x'.1 ∧ p ≤ x'.2.2.2 ∧ x'.2.2.2 ≤
 p + (100 : Int) * (↑x.1 : Int) + (3 : Int) + (30 : Int) * ((3 : Int) - x_2.1) +
 (2 : Int) * (↑x'.1 : Int)) ∧ (List.getD s x.1 Pl.dY).2.1.length - x'.1 < (List.getD s x.1 Pl.dY).2.1.length - x_4.1 ∧ ((0 : Nat) = (0 : Nat) ∧ (0 : Nat) = (0 : Nat) ∧ (0 : Nat) = (0 : Nat) ∧ ((0 : Nat) = (0 : Nat) ∧ List.length x_2.2.1 = List.length x_2.2.1) ∧ (↑x.1 : Int) = (↑x.1 : Int) ∧ x_2.1 = x_2.1 ∧ (0 : Nat) = (0 : Nat) ∧ IntKind.i64.wrap ((↑x_4.1 : Int) + (1 : Int)) = (↑x'.1 : Int) ∧ True) ∧ (Is (byts x_5.1) (byts b) ∧ y.2 = x'.2.2.2 ∧ True) ∧ (Is (syms s) (syms s) ∧ True) ∧ (Is (AV.lit (0 : Nat) (1 : Nat) fun (x x_6 : Nat) => AV.any) nilA ∧ True) ∧ IsO (xrR x_2.2.1) (xrR x_2.2.1) ∧ ((List.getD s x.1 Pl.dY).1 = (List.getD s x.1 Pl.dY).1 ∧ ((0 : Nat) = (0 : Nat) ∧ x_4.2.1.length + (1 : Nat) = x'.2.1.length) ∧ x_4.2.2.1.1 = x'.2.2.1.1 ∧ x_4.2.2.1.2 = x'.2.2.1.2 ∧ True) ∧ IsO
 (AObj.arr (x_4.2.1.length + (1 : Nat)) (2 : Nat)
 (joinC x_4.2.1.length (cQ x_4.2.1)
 (rowsCell [[i64 y.1.1, i64 y.1.2]])))
 (arQ x'.2.1) ∧ True) ∧ ∃ x_5 : List Int × Int × Int,
 Rd (549755813888 : Int) x_5.1 x_5.2.1 ∧ (((0 : Nat) = (0 : Nat) ∧ (List.getD s x.1 Pl.dY).2.1.getD x_4.1 (0 : Int) = x_5.2.2 ∧ True) ∧ (Is (byts b) (byts x_5.1) ∧ x_4.2.2.2 = x_5.2.1 ∧ True) ∧ True) ∧ ∀ (y : Pl.Rt × Int),
 x_5.2.1 ≤ y.2 ∧ y.2 ≤ x_5.2.1 + (2 : Int) →
 (0 : Nat) + x_4.2.1.length ≤ x_4.2.1.length ∧ (x_4.2.1.length + (1 : Nat)) * (16 : Nat) ≤ (70368744177664 : Nat) ∧ Exists fun (x' : Nat × List Pl.Rt × Pl.Rt × Int) =>
 (x'.1 ≤ (List.getD s x.1 Pl.dY).2.1.length ∧ x'.2.1.length = x'.1 ∧ p ≤ x'.2.2.2 ∧ x'.2.2.2 ≤
 p + (100 : Int) * (↑x.1 : Int) + (3 : Int) + (30 : Int) * ((3 : Int) - x_2.1) +
 (2 : Int) * (↑x'.1 : Int)) ∧ (List.getD s x.1 Pl.dY).2.1.length - x'.1 < (List.getD s x.1 Pl.dY).2.1.length - x_4.1 ∧ ((0 : Nat) = (0 : Nat) ∧ (0 : Nat) = (0 : Nat) ∧ (0 : Nat) = (0 : Nat) ∧ ((0 : Nat) = (0 : Nat) ∧ List.length x_2.2.1 = List.length x_2.2.1) ∧ (↑x.1 : Int) = (↑x.1 : Int) ∧ x_2.1 = x_2.1 ∧ (0 : Nat) = (0 : Nat) ∧ IntKind.i64.wrap ((↑x_4.1 : Int) + (1 : Int)) = (↑x'.1 : Int) ∧ True) ∧ (Is (byts x_5.1) (byts b) ∧ y.2 = x'.2.2.2 ∧ True) ∧ (Is (syms s) (syms s) ∧ True) ∧ (Is (AV.lit (0 : Nat) (1 : Nat) fun (x x_6 : Nat) => AV.any) nilA ∧ True) ∧ IsO (xrR x_2.2.1) (xrR x_2.2.1) ∧ ((List.getD s x.1 Pl.dY).1 = (List.getD s x.1 Pl.dY).1 ∧ ((0 : Nat) = (0 : Nat) ∧ x_4.2.1.length + (1 : Nat) = x'.2.1.length) ∧ x_4.2.2.1.1 = x'.2.2.1.1 ∧ x_4.2.2.1.2 = x'.2.2.1.2 ∧ True) ∧ IsO
 (AObj.arr (x_4.2.1.length + (1 : Nat)) (2 : Nat)
 (joinC x_4.2.1.length (cQ x_4.2.1)
 (rowsCell [[i64 y.1.1, i64 y.1.2]])))
 (arQ x'.2.1) ∧ True)
 (∃ x_5 : List Pl.Rw × Pl.Rw,
 (x_5.1.length ≤ (1000 : Nat) ∧ (∀ (y : Pl.Rw), y ∈ x_5.1 → y.2.1.length ≤ (1000 : Nat)) ∧ x_5.2.2.1.length ≤ (1000 : Nat)) ∧ ((((0 : Nat) = (0 : Nat) ∧ List.length x_2.2.1 = x_5.1.length) ∧ ((List.getD s x.1 Pl.dY).1 = x_5.2.1 ∧ ((0 : Nat) = (0 : Nat) ∧ x_4.2.1.length = x_5.2.2.1.length) ∧ x_4.2.2.1.1 = x_5.2.2.2.1 ∧ x_4.2.2.1.2 = x_5.2.2.2.2 ∧ True) ∧ True) ∧ IsO (xrR x_2.2.1) (xrR x_5.1) ∧ IsO (arQ x_4.2.1) (arQ x_5.2.2.1) ∧ True) ∧ ∀ (y : List Nat),
 HPut x_5.1.length y →
 Exists fun (x' : Int × Pl.Mdl × Int) =>
 ((0 : Int) ≤ x'.1 ∧ x'.1 ≤ (3 : Int) ∧ Pl.MdB ((3 : Nat) * x.1 + (3 : Nat) - x'.1.toNat) (2 : Nat) x'.2.1 ∧ p ≤ x'.2.2 ∧ x'.2.2 ≤ p + (100 : Int) * (↑x.1 : Int) + (1 : Int) + (30 : Int) * ((3 : Int) - x'.1)) ∧ x'.1.toNat < x_2.1.toNat ∧ ((0 : Nat) = (0 : Nat) ∧ (0 : Nat) = (0 : Nat) ∧ (0 : Nat) = (0 : Nat) ∧ ((0 : Nat) = (0 : Nat) ∧ y.length = List.length x'.2.1) ∧ (↑x.1 : Int) = (↑x.1 : Int) ∧ IntKind.i64.wrap (x_2.1 - (1 : Int)) = x'.1 ∧ True) ∧ (Is (byts b) (byts b) ∧ x_4.2.2.2 = x'.2.2 ∧ True) ∧ (Is (syms s) (syms s) ∧ True) ∧ (Is (AV.lit (0 : Nat) (1 : Nat) fun (x x_6 : Nat) => AV.any) nilA ∧ True) ∧ IsO (xrR (List.map (fun (i : Nat) => (x_5.1 ++ [x_5.2]).getD i Pl.dR) y)) (xrR x'.2.1) ∧ True)) ∧ ∃ x_3 : List Int × Int × Int,
 Rd (549755813888 : Int) x_3.1 x_3.2.1 ∧ (((0 : Nat) = (0 : Nat) ∧ (List.getD s x.1 Pl.dY).2.2 = x_3.2.2 ∧ True) ∧ (Is (byts b) (byts x_3.1) ∧ x_2.2.2 = x_3.2.1 ∧ True) ∧ True) ∧ ∀ (y : Pl.Rt × Int),
 x_3.2.1 ≤ y.2 ∧ y.2 ≤ x_3.2.1 + (2 : Int) →
 (∃ x_4 : Nat × List Pl.Rt × Pl.Rt × Int,
 (x_4.1 ≤ (List.getD s x.1 Pl.dY).2.1.length ∧ x_4.2.1.length = x_4.1 ∧ p ≤ x_4.2.2.2 ∧ x_4.2.2.2 ≤ p + (100 : Int) * (↑x.1 : Int) + (3 : Int) + (30 : Int) * ((3 : Int) - x_2.1) + (2 : Int) * (↑x_4.1 : Int)) ∧ ((0 : Nat) = (0 : Nat) ∧ (0 : Nat) = (0 : Nat) ∧ (0 : Nat) = (0 : Nat) ∧ ((0 : Nat) = (0 : Nat) ∧ List.length x_2.2.1 = List.length x_2.2.1) ∧ (↑x.1 : Int) = (↑x.1 : Int) ∧ x_2.1 = x_2.1 ∧ (0 : Nat) = (0 : Nat) ∧ (0 : Int) = (↑x_4.1 : Int) ∧ True) ∧ (Is (byts x_3.1) (byts b) ∧ y.2 = x_4.2.2.2 ∧ True) ∧ (Is (syms s) (syms s) ∧ True) ∧ (Is (AV.lit (0 : Nat) (1 : Nat) fun (x x_5 : Nat) => AV.any) nilA ∧ True) ∧ IsO (xrR x_2.2.1) (xrR x_2.2.1) ∧ ((List.getD s x.1 Pl.dY).1 = (List.getD s x.1 Pl.dY).1 ∧ ((0 : Nat) = (0 : Nat) ∧ (0 : Nat) = (0 : Nat) ∧ x_4.2.1.length = (0 : Nat)) ∧ y.1.1 = x_4.2.2.1.1 ∧ y.1.2 = x_4.2.2.1.2 ∧ True) ∧ x_4.2.1.length = (0 : Nat) ∧ True) ∧ ∀ (x_4 : Nat × List Pl.Rt × Pl.Rt × Int),
 x_4.1 ≤ (List.getD s x.1 Pl.dY).2.1.length ∧ x_4.2.1.length = x_4.1 ∧ p ≤ x_4.2.2.2 ∧ x_4.2.2.2 ≤ p + (100 : Int) * (↑x.1 : Int) + (3 : Int) + (30 : Int) * ((3 : Int) - x_2.1) + (2 : Int) * (↑x_4.1 : Int) →
 ((0 : Int) ≤ (↑x.1 : Int) ∧ (↑x.1 : Int) < (↑(List.length s) : Int)) ∧ x.1 < List.length s ∧ condP (decide ((↑x_4.1 : Int) < (↑(List.getD s x.1 Pl.dY).2.1.length : Int)))
 ((((0 : Int) ≤ (↑x.1 : Int) ∧ (↑x.1 : Int) < (↑(List.length s) : Int)) ∧ x.1 < List.length s ∧ ((0 : Int) ≤ (↑x_4.1 : Int) ∧ (↑x_4.1 : Int) < (↑(List.getD s x.1 Pl.dY).2.1.length : Int)) ∧ x_4.1 < (List.getD s x.1 Pl.dY).2.1.length ∧ ∃ x_5 : List Int × Int × Int,
 Rd (549755813888 : Int) x_5.1 x_5.2.1 ∧ (((0 : Nat) = (0 : Nat) ∧ (List.getD s x.1 Pl.dY).2.1.getD x_4.1 (0 : Int) = x_5.2.2 ∧ True) ∧ (Is (byts b) (byts x_5.1) ∧ x_4.2.2.2 = x_5.2.1 ∧ True) ∧ True) ∧ ∀ (y : Pl.Rt × Int),
 x_5.2.1 ≤ y.2 ∧ y.2 ≤ x_5.2.1 + (2 : Int) →
 (0 : Nat) + x_4.2.1.length ≤ x_4.2.1.length ∧ (x_4.2.1.length + (1 : Nat)) * (16 : Nat) ≤ (70368744177664 : Nat) ∧ Exists fun (x' : Nat × List Pl.Rt × Pl.Rt × Int) =>
 (x'.1 ≤ (List.getD s x.1 Pl.dY).2.1.length ∧ x'.2.1.length = x'.1 ∧ p ≤ x'.2.2.2 ∧ x'.2.2.2 ≤
 p + (100 : Int) * (↑x.1 : Int) + (3 : Int) + (30 : Int) * ((3 : Int) - x_2.1) +
 (2 : Int) * (↑x'.1 : Int)) ∧ (List.getD s x.1 Pl.dY).2.1.length - x'.1 < (List.getD s x.1 Pl.dY).2.1.length - x_4.1 ∧ ((0 : Nat) = (0 : Nat) ∧ (0 : Nat) = (0 : Nat) ∧ (0 : Nat) = (0 : Nat) ∧ ((0 : Nat) = (0 : Nat) ∧ List.length x_2.2.1 = List.length x_2.2.1) ∧ (↑x.1 : Int) = (↑x.1 : Int) ∧ x_2.1 = x_2.1 ∧ (0 : Nat) = (0 : Nat) ∧ IntKind.i64.wrap ((↑x_4.1 : Int) + (1 : Int)) = (↑x'.1 : Int) ∧ True) ∧ (Is (byts x_5.1) (byts b) ∧ y.2 = x'.2.2.2 ∧ True) ∧ (Is (syms s) (syms s) ∧ True) ∧ (Is (AV.lit (0 : Nat) (1 : Nat) fun (x x_6 : Nat) => AV.any) nilA ∧ True) ∧ IsO (xrR x_2.2.1) (xrR x_2.2.1) ∧ ((List.getD s x.1 Pl.dY).1 = (List.getD s x.1 Pl.dY).1 ∧ ((0 : Nat) = (0 : Nat) ∧ x_4.2.1.length + (1 : Nat) = x'.2.1.length) ∧ x_4.2.2.1.1 = x'.2.2.1.1 ∧ x_4.2.2.1.2 = x'.2.2.1.2 ∧ True) ∧ IsO
 (AObj.arr (x_4.2.1.length + (1 : Nat)) (2 : Nat)
 (joinC x_4.2.1.length (cQ x_4.2.1)
 (rowsCell [[i64 y.1.1, i64 y.1.2]])))
 (arQ x'.2.1) ∧ True) ∧ ((0 : Int) ≤ (↑x.1 : Int) ∧ (↑x.1 : Int) < (↑(List.length s) : Int)) ∧ x.1 < List.length s ∧ ((0 : Int) ≤ (↑x_4.1 : Int) ∧ (↑x_4.1 : Int) < (↑(List.getD s x.1 Pl.dY).2.1.length : Int)) ∧ x_4.1 < (List.getD s x.1 Pl.dY).2.1.length ∧ (∃ x_5 : List Int × Int × Int,
 Rd (549755813888 : Int) x_5.1 x_5.2.1 ∧ (((0 : Nat) = (0 : Nat) ∧ (List.getD s x.1 Pl.dY).2.1.getD x_4.1 (0 : Int) = x_5.2.2 ∧ True) ∧ (Is (byts b) (byts x_5.1) ∧ x_4.2.2.2 = x_5.2.1 ∧ True) ∧ True) ∧ ∀ (y : Pl.Rt × Int),
 x_5.2.1 ≤ y.2 ∧ y.2 ≤ x_5.2.1 + (2 : Int) →
 (0 : Nat) + x_4.2.1.length ≤ x_4.2.1.length ∧ (x_4.2.1.length + (1 : Nat)) * (16 : Nat) ≤ (70368744177664 : Nat) ∧ Exists fun (x' : Nat × List Pl.Rt × Pl.Rt × Int) =>
 (x'.1 ≤ (List.getD s x.1 Pl.dY).2.1.length ∧ x'.2.1.length = x'.1 ∧ p ≤ x'.2.2.2 ∧ x'.2.2.2 ≤
 p + (100 : Int) * (↑x.1 : Int) + (3 : Int) + (30 : Int) * ((3 : Int) - x_2.1) +
 (2 : Int) * (↑x'.1 : Int)) ∧ (List.getD s x.1 Pl.dY).2.1.length - x'.1 < (List.getD s x.1 Pl.dY).2.1.length - x_4.1 ∧ ((0 : Nat) = (0 : Nat) ∧ (0 : Nat) = (0 : Nat) ∧ (0 : Nat) = (0 : Nat) ∧ ((0 : Nat) = (0 : Nat) ∧ List.length x_2.2.1 = List.length x_2.2.1) ∧ (↑x.1 : Int) = (↑x.1 : Int) ∧ x_2.1 = x_2.1 ∧ (0 : Nat) = (0 : Nat) ∧ IntKind.i64.wrap ((↑x_4.1 : Int) + (1 : Int)) = (↑x'.1 : Int) ∧ True) ∧ (Is (byts x_5.1) (byts b) ∧ y.2 = x'.2.2.2 ∧ True) ∧ (Is (syms s) (syms s) ∧ True) ∧ (Is (AV.lit (0 : Nat) (1 : Nat) fun (x x_6 : Nat) => AV.any) nilA ∧ True) ∧ IsO (xrR x_2.2.1) (xrR x_2.2.1) ∧ ((List.getD s x.1 Pl.dY).1 = (List.getD s x.1 Pl.dY).1 ∧ ((0 : Nat) = (0 : Nat) ∧ x_4.2.1.length + (1 : Nat) = x'.2.1.length) ∧ x_4.2.2.1.1 = x'.2.2.1.1 ∧ x_4.2.2.1.2 = x'.2.2.1.2 ∧ True) ∧ IsO
 (AObj.arr (x_4.2.1.length + (1 : Nat)) (2 : Nat)
 (joinC x_4.2.1.length (cQ x_4.2.1)
 (rowsCell [[i64 y.1.1, i64 y.1.2]])))
 (arQ x'.2.1) ∧ True) ∧ ∃ x_5 : List Int × Int × Int,
 Rd (549755813888 : Int) x_5.1 x_5.2.1 ∧ (((0 : Nat) = (0 : Nat) ∧ (List.getD s x.1 Pl.dY).2.1.getD x_4.1 (0 : Int) = x_5.2.2 ∧ True) ∧ (Is (byts b) (byts x_5.1) ∧ x_4.2.2.2 = x_5.2.1 ∧ True) ∧ True) ∧ ∀ (y : Pl.Rt × Int),
 x_5.2.1 ≤ y.2 ∧ y.2 ≤ x_5.2.1 + (2 : Int) →
 (0 : Nat) + x_4.2.1.length ≤ x_4.2.1.length ∧ (x_4.2.1.length + (1 : Nat)) * (16 : Nat) ≤ (70368744177664 : Nat) ∧ Exists fun (x' : Nat × List Pl.Rt × Pl.Rt × Int) =>
 (x'.1 ≤ (List.getD s x.1 Pl.dY).2.1.length ∧ x'.2.1.length = x'.1 ∧ p ≤ x'.2.2.2 ∧ x'.2.2.2 ≤
 p + (100 : Int) * (↑x.1 : Int) + (3 : Int) + (30 : Int) * ((3 : Int) - x_2.1) +
 (2 : Int) * (↑x'.1 : Int)) ∧ (List.getD s x.1 Pl.dY).2.1.length - x'.1 < (List.getD s x.1 Pl.dY).2.1.length - x_4.1 ∧ ((0 : Nat) = (0 : Nat) ∧ (0 : Nat) = (0 : Nat) ∧ (0 : Nat) = (0 : Nat) ∧ ((0 : Nat) = (0 : Nat) ∧ List.length x_2.2.1 = List.length x_2.2.1) ∧ (↑x.1 : Int) = (↑x.1 : Int) ∧ x_2.1 = x_2.1 ∧ (0 : Nat) = (0 : Nat) ∧ IntKind.i64.wrap ((↑x_4.1 : Int) + (1 : Int)) = (↑x'.1 : Int) ∧ True) ∧ (Is (byts x_5.1) (byts b) ∧ y.2 = x'.2.2.2 ∧ True) ∧ (Is (syms s) (syms s) ∧ True) ∧ (Is (AV.lit (0 : Nat) (1 : Nat) fun (x x_6 : Nat) => AV.any) nilA ∧ True) ∧ IsO (xrR x_2.2.1) (xrR x_2.2.1) ∧ ((List.getD s x.1 Pl.dY).1 = (List.getD s x.1 Pl.dY).1 ∧ ((0 : Nat) = (0 : Nat) ∧ x_4.2.1.length + (1 : Nat) = x'.2.1.length) ∧ x_4.2.2.1.1 = x'.2.2.1.1 ∧ x_4.2.2.1.2 = x'.2.2.1.2 ∧ True) ∧ IsO
 (AObj.arr (x_4.2.1.length + (1 : Nat)) (2 : Nat)
 (joinC x_4.2.1.length (cQ x_4.2.1)
 (rowsCell [[i64 y.1.1, i64 y.1.2]])))
 (arQ x'.2.1) ∧ True)
 (∃ x_5 : List Pl.Rw × Pl.Rw,
 (x_5.1.length ≤ (1000 : Nat) ∧ (∀ (y : Pl.Rw), y ∈ x_5.1 → y.2.1.length ≤ (1000 : Nat)) ∧ x_5.2.2.1.length ≤ (1000 : Nat)) ∧ ((((0 : Nat) = (0 : Nat) ∧ List.length x_2.2.1 = x_5.1.length) ∧ ((List.getD s x.1 Pl.dY).1 = x_5.2.1 ∧ ((0 : Nat) = (0 : Nat) ∧ x_4.2.1.length = x_5.2.2.1.length) ∧ x_4.2.2.1.1 = x_5.2.2.2.1 ∧ x_4.2.2.1.2 = x_5.2.2.2.2 ∧ True) ∧ True) ∧ IsO (xrR x_2.2.1) (xrR x_5.1) ∧ IsO (arQ x_4.2.1) (arQ x_5.2.2.1) ∧ True) ∧ ∀ (y : List Nat),
 HPut x_5.1.length y →
 Exists fun (x' : Int × Pl.Mdl × Int) =>
 ((0 : Int) ≤ x'.1 ∧ x'.1 ≤ (3 : Int) ∧ Pl.MdB ((3 : Nat) * x.1 + (3 : Nat) - x'.1.toNat) (2 : Nat) x'.2.1 ∧ p ≤ x'.2.2 ∧ x'.2.2 ≤ p + (100 : Int) * (↑x.1 : Int) + (1 : Int) + (30 : Int) * ((3 : Int) - x'.1)) ∧ x'.1.toNat < x_2.1.toNat ∧ ((0 : Nat) = (0 : Nat) ∧ (0 : Nat) = (0 : Nat) ∧ (0 : Nat) = (0 : Nat) ∧ ((0 : Nat) = (0 : Nat) ∧ y.length = List.length x'.2.1) ∧ (↑x.1 : Int) = (↑x.1 : Int) ∧ IntKind.i64.wrap (x_2.1 - (1 : Int)) = x'.1 ∧ True) ∧ (Is (byts b) (byts b) ∧ x_4.2.2.2 = x'.2.2 ∧ True) ∧ (Is (syms s) (syms s) ∧ True) ∧ (Is (AV.lit (0 : Nat) (1 : Nat) fun (x x_6 : Nat) => AV.any) nilA ∧ True) ∧ IsO (xrR (List.map (fun (i : Nat) => (x_5.1 ++ [x_5.2]).getD i Pl.dR) y)) (xrR x'.2.1) ∧ True)) ∧ (∃ x_3 : List Int × Int × Int,
 Rd (549755813888 : Int) x_3.1 x_3.2.1 ∧ (((0 : Nat) = (0 : Nat) ∧ (List.getD s x.1 Pl.dY).2.2 = x_3.2.2 ∧ True) ∧ (Is (byts b) (byts x_3.1) ∧ x_2.2.2 = x_3.2.1 ∧ True) ∧ True) ∧ ∀ (y : Pl.Rt × Int),
 x_3.2.1 ≤ y.2 ∧ y.2 ≤ x_3.2.1 + (2 : Int) →
 ((0 : Int) ≤ (↑x.1 : Int) ∧ (↑x.1 : Int) < (↑(List.length s) : Int)) ∧ x.1 < List.length s ∧ (∃ x_4 : Nat × List Pl.Rt × Pl.Rt × Int,
 (x_4.1 ≤ (List.getD s x.1 Pl.dY).2.1.length ∧ x_4.2.1.length = x_4.1 ∧ p ≤ x_4.2.2.2 ∧ x_4.2.2.2 ≤ p + (100 : Int) * (↑x.1 : Int) + (3 : Int) + (30 : Int) * ((3 : Int) - x_2.1) + (2 : Int) * (↑x_4.1 : Int)) ∧ ((0 : Nat) = (0 : Nat) ∧ (0 : Nat) = (0 : Nat) ∧ (0 : Nat) = (0 : Nat) ∧ ((0 : Nat) = (0 : Nat) ∧ List.length x_2.2.1 = List.length x_2.2.1) ∧ (↑x.1 : Int) = (↑x.1 : Int) ∧ x_2.1 = x_2.1 ∧ (0 : Nat) = (0 : Nat) ∧ (0 : Int) = (↑x_4.1 : Int) ∧ True) ∧ (Is (byts x_3.1) (byts b) ∧ y.2 = x_4.2.2.2 ∧ True) ∧ (Is (syms s) (syms s) ∧ True) ∧ (Is (AV.lit (0 : Nat) (1 : Nat) fun (x x_5 : Nat) => AV.any) nilA ∧ True) ∧ IsO (xrR x_2.2.1) (xrR x_2.2.1) ∧ ((List.getD s x.1 Pl.dY).1 = (List.getD s x.1 Pl.dY).1 ∧ ((0 : Nat) = (0 : Nat) ∧ (0 : Nat) = (0 : Nat) ∧ x_4.2.1.length = (0 : Nat)) ∧ y.1.1 = x_4.2.2.1.1 ∧ y.1.2 = x_4.2.2.1.2 ∧ True) ∧ x_4.2.1.length = (0 : Nat) ∧ True) ∧ ∀ (x_4 : Nat × List Pl.Rt × Pl.Rt × Int),
 x_4.1 ≤ (List.getD s x.1 Pl.dY).2.1.length ∧ x_4.2.1.length = x_4.1 ∧ p ≤ x_4.2.2.2 ∧ x_4.2.2.2 ≤ p + (100 : Int) * (↑x.1 : Int) + (3 : Int) + (30 : Int) * ((3 : Int) - x_2.1) + (2 : Int) * (↑x_4.1 : Int) →
 ((0 : Int) ≤ (↑x.1 : Int) ∧ (↑x.1 : Int) < (↑(List.length s) : Int)) ∧ x.1 < List.length s ∧ condP (decide ((↑x_4.1 : Int) < (↑(List.getD s x.1 Pl.dY).2.1.length : Int)))
 ((((0 : Int) ≤ (↑x.1 : Int) ∧ (↑x.1 : Int) < (↑(List.length s) : Int)) ∧ x.1 < List.length s ∧ ((0 : Int) ≤ (↑x_4.1 : Int) ∧ (↑x_4.1 : Int) < (↑(List.getD s x.1 Pl.dY).2.1.length : Int)) ∧ x_4.1 < (List.getD s x.1 Pl.dY).2.1.length ∧ ∃ x_5 : List Int × Int × Int,
 Rd (549755813888 : Int) x_5.1 x_5.2.1 ∧ (((0 : Nat) = (0 : Nat) ∧ (List.getD s x.1 Pl.dY).2.1.getD x_4.1 (0 : Int) = x_5.2.2 ∧ True) ∧ (Is (byts b) (byts x_5.1) ∧ x_4.2.2.2 = x_5.2.1 ∧ True) ∧ True) ∧ ∀ (y : Pl.Rt × Int),
 x_5.2.1 ≤ y.2 ∧ y.2 ≤ x_5.2.1 + (2 : Int) →
 (0 : Nat) + x_4.2.1.length ≤ x_4.2.1.length ∧ (x_4.2.1.length + (1 : Nat)) * (16 : Nat) ≤ (70368744177664 : Nat) ∧ Exists fun (x' : Nat × List Pl.Rt × Pl.Rt × Int) =>
 (x'.1 ≤ (List.getD s x.1 Pl.dY).2.1.length ∧ x'.2.1.length = x'.1 ∧ p ≤ x'.2.2.2 ∧ x'.2.2.2 ≤
 p + (100 : Int) * (↑x.1 : Int) + (3 : Int) + (30 : Int) * ((3 : Int) - x_2.1) +
 (2 : Int) * (↑x'.1 : Int)) ∧ (List.getD s x.1 Pl.dY).2.1.length - x'.1 < (List.getD s x.1 Pl.dY).2.1.length - x_4.1 ∧ ((0 : Nat) = (0 : Nat) ∧ (0 : Nat) = (0 : Nat) ∧ (0 : Nat) = (0 : Nat) ∧ ((0 : Nat) = (0 : Nat) ∧ List.length x_2.2.1 = List.length x_2.2.1) ∧ (↑x.1 : Int) = (↑x.1 : Int) ∧ x_2.1 = x_2.1 ∧ (0 : Nat) = (0 : Nat) ∧ IntKind.i64.wrap ((↑x_4.1 : Int) + (1 : Int)) = (↑x'.1 : Int) ∧ True) ∧ (Is (byts x_5.1) (byts b) ∧ y.2 = x'.2.2.2 ∧ True) ∧ (Is (syms s) (syms s) ∧ True) ∧ (Is (AV.lit (0 : Nat) (1 : Nat) fun (x x_6 : Nat) => AV.any) nilA ∧ True) ∧ IsO (xrR x_2.2.1) (xrR x_2.2.1) ∧ ((List.getD s x.1 Pl.dY).1 = (List.getD s x.1 Pl.dY).1 ∧ ((0 : Nat) = (0 : Nat) ∧ x_4.2.1.length + (1 : Nat) = x'.2.1.length) ∧ x_4.2.2.1.1 = x'.2.2.1.1 ∧ x_4.2.2.1.2 = x'.2.2.1.2 ∧ True) ∧ IsO
 (AObj.arr (x_4.2.1.length + (1 : Nat)) (2 : Nat)
 (joinC x_4.2.1.length (cQ x_4.2.1)
 (rowsCell [[i64 y.1.1, i64 y.1.2]])))
 (arQ x'.2.1) ∧ True) ∧ ((0 : Int) ≤ (↑x.1 : Int) ∧ (↑x.1 : Int) < (↑(List.length s) : Int)) ∧ x.1 < List.length s ∧ ((0 : Int) ≤ (↑x_4.1 : Int) ∧ (↑x_4.1 : Int) < (↑(List.getD s x.1 Pl.dY).2.1.length : Int)) ∧ x_4.1 < (List.getD s x.1 Pl.dY).2.1.length ∧ (∃ x_5 : List Int × Int × Int,
 Rd (549755813888 : Int) x_5.1 x_5.2.1 ∧ (((0 : Nat) = (0 : Nat) ∧ (List.getD s x.1 Pl.dY).2.1.getD x_4.1 (0 : Int) = x_5.2.2 ∧ True) ∧ (Is (byts b) (byts x_5.1) ∧ x_4.2.2.2 = x_5.2.1 ∧ True) ∧ True) ∧ ∀ (y : Pl.Rt × Int),
 x_5.2.1 ≤ y.2 ∧ y.2 ≤ x_5.2.1 + (2 : Int) →
 (0 : Nat) + x_4.2.1.length ≤ x_4.2.1.length ∧ (x_4.2.1.length + (1 : Nat)) * (16 : Nat) ≤ (70368744177664 : Nat) ∧ Exists fun (x' : Nat × List Pl.Rt × Pl.Rt × Int) =>
 (x'.1 ≤ (List.getD s x.1 Pl.dY).2.1.length ∧ x'.2.1.length = x'.1 ∧ p ≤ x'.2.2.2 ∧ x'.2.2.2 ≤
 p + (100 : Int) * (↑x.1 : Int) + (3 : Int) + (30 : Int) * ((3 : Int) - x_2.1) +
 (2 : Int) * (↑x'.1 : Int)) ∧ (List.getD s x.1 Pl.dY).2.1.length - x'.1 < (List.getD s x.1 Pl.dY).2.1.length - x_4.1 ∧ ((0 : Nat) = (0 : Nat) ∧ (0 : Nat) = (0 : Nat) ∧ (0 : Nat) = (0 : Nat) ∧ ((0 : Nat) = (0 : Nat) ∧ List.length x_2.2.1 = List.length x_2.2.1) ∧ (↑x.1 : Int) = (↑x.1 : Int) ∧ x_2.1 = x_2.1 ∧ (0 : Nat) = (0 : Nat) ∧ IntKind.i64.wrap ((↑x_4.1 : Int) + (1 : Int)) = (↑x'.1 : Int) ∧ True) ∧ (Is (byts x_5.1) (byts b) ∧ y.2 = x'.2.2.2 ∧ True) ∧ (Is (syms s) (syms s) ∧ True) ∧ (Is (AV.lit (0 : Nat) (1 : Nat) fun (x x_6 : Nat) => AV.any) nilA ∧ True) ∧ IsO (xrR x_2.2.1) (xrR x_2.2.1) ∧ ((List.getD s x.1 Pl.dY).1 = (List.getD s x.1 Pl.dY).1 ∧ ((0 : Nat) = (0 : Nat) ∧ x_4.2.1.length + (1 : Nat) = x'.2.1.length) ∧ x_4.2.2.1.1 = x'.2.2.1.1 ∧ x_4.2.2.1.2 = x'.2.2.1.2 ∧ True) ∧ IsO
 (AObj.arr (x_4.2.1.length + (1 : Nat)) (2 : Nat)
 (joinC x_4.2.1.length (cQ x_4.2.1)
 (rowsCell [[i64 y.1.1, i64 y.1.2]])))
 (arQ x'.2.1) ∧ True) ∧ ∃ x_5 : List Int × Int × Int,
 Rd (549755813888 : Int) x_5.1 x_5.2.1 ∧ (((0 : Nat) = (0 : Nat) ∧ (List.getD s x.1 Pl.dY).2.1.getD x_4.1 (0 : Int) = x_5.2.2 ∧ True) ∧ (Is (byts b) (byts x_5.1) ∧ x_4.2.2.2 = x_5.2.1 ∧ True) ∧ True) ∧ ∀ (y : Pl.Rt × Int),
 x_5.2.1 ≤ y.2 ∧ y.2 ≤ x_5.2.1 + (2 : Int) →
 (0 : Nat) + x_4.2.1.length ≤ x_4.2.1.length ∧ (x_4.2.1.length + (1 : Nat)) * (16 : Nat) ≤ (70368744177664 : Nat) ∧ Exists fun (x' : Nat × List Pl.Rt × Pl.Rt × Int) =>
 (x'.1 ≤ (List.getD s x.1 Pl.dY).2.1.length ∧ x'.2.1.length = x'.1 ∧ p ≤ x'.2.2.2 ∧ x'.2.2.2 ≤
 p + (100 : Int) * (↑x.1 : Int) + (3 : Int) + (30 : Int) * ((3 : Int) - x_2.1) +
 (2 : Int) * (↑x'.1 : Int)) ∧ (List.getD s x.1 Pl.dY).2.1.length - x'.1 < (List.getD s x.1 Pl.dY).2.1.length - x_4.1 ∧ ((0 : Nat) = (0 : Nat) ∧ (0 : Nat) = (0 : Nat) ∧ (0 : Nat) = (0 : Nat) ∧ ((0 : Nat) = (0 : Nat) ∧ List.length x_2.2.1 = List.length x_2.2.1) ∧ (↑x.1 : Int) = (↑x.1 : Int) ∧ x_2.1 = x_2.1 ∧ (0 : Nat) = (0 : Nat) ∧ IntKind.i64.wrap ((↑x_4.1 : Int) + (1 : Int)) = (↑x'.1 : Int) ∧ True) ∧ (Is (byts x_5.1) (byts b) ∧ y.2 = x'.2.2.2 ∧ True) ∧ (Is (syms s) (syms s) ∧ True) ∧ (Is (AV.lit (0 : Nat) (1 : Nat) fun (x x_6 : Nat) => AV.any) nilA ∧ True) ∧ IsO (xrR x_2.2.1) (xrR x_2.2.1) ∧ ((List.getD s x.1 Pl.dY).1 = (List.getD s x.1 Pl.dY).1 ∧ ((0 : Nat) = (0 : Nat) ∧ x_4.2.1.length + (1 : Nat) = x'.2.1.length) ∧ x_4.2.2.1.1 = x'.2.2.1.1 ∧ x_4.2.2.1.2 = x'.2.2.1.2 ∧ True) ∧ IsO
 (AObj.arr (x_4.2.1.length + (1 : Nat)) (2 : Nat)
 (joinC x_4.2.1.length (cQ x_4.2.1)
 (rowsCell [[i64 y.1.1, i64 y.1.2]])))
 (arQ x'.2.1) ∧ True)
 (∃ x_5 : List Pl.Rw × Pl.Rw,
 (x_5.1.length ≤ (1000 : Nat) ∧ (∀ (y : Pl.Rw), y ∈ x_5.1 → y.2.1.length ≤ (1000 : Nat)) ∧ x_5.2.2.1.length ≤ (1000 : Nat)) ∧ ((((0 : Nat) = (0 : Nat) ∧ List.length x_2.2.1 = x_5.1.length) ∧ ((List.getD s x.1 Pl.dY).1 = x_5.2.1 ∧ ((0 : Nat) = (0 : Nat) ∧ x_4.2.1.length = x_5.2.2.1.length) ∧ x_4.2.2.1.1 = x_5.2.2.2.1 ∧ x_4.2.2.1.2 = x_5.2.2.2.2 ∧ True) ∧ True) ∧ IsO (xrR x_2.2.1) (xrR x_5.1) ∧ IsO (arQ x_4.2.1) (arQ x_5.2.2.1) ∧ True) ∧ ∀ (y : List Nat),
 HPut x_5.1.length y →
 Exists fun (x' : Int × Pl.Mdl × Int) =>
 ((0 : Int) ≤ x'.1 ∧ x'.1 ≤ (3 : Int) ∧ Pl.MdB ((3 : Nat) * x.1 + (3 : Nat) - x'.1.toNat) (2 : Nat) x'.2.1 ∧ p ≤ x'.2.2 ∧ x'.2.2 ≤ p + (100 : Int) * (↑x.1 : Int) + (1 : Int) + (30 : Int) * ((3 : Int) - x'.1)) ∧ x'.1.toNat < x_2.1.toNat ∧ ((0 : Nat) = (0 : Nat) ∧ (0 : Nat) = (0 : Nat) ∧ (0 : Nat) = (0 : Nat) ∧ ((0 : Nat) = (0 : Nat) ∧ y.length = List.length x'.2.1) ∧ (↑x.1 : Int) = (↑x.1 : Int) ∧ IntKind.i64.wrap (x_2.1 - (1 : Int)) = x'.1 ∧ True) ∧ (Is (byts b) (byts b) ∧ x_4.2.2.2 = x'.2.2 ∧ True) ∧ (Is (syms s) (syms s) ∧ True) ∧ (Is (AV.lit (0 : Nat) (1 : Nat) fun (x x_6 : Nat) => AV.any) nilA ∧ True) ∧ IsO (xrR (List.map (fun (i : Nat) => (x_5.1 ++ [x_5.2]).getD i Pl.dR) y)) (xrR x'.2.1) ∧ True)) ∧ (((0 : Int) ≤ (↑x.1 : Int) ∧ (↑x.1 : Int) < (↑(List.length s) : Int)) ∧ x.1 < List.length s ∧ ∃ x_3 : List Int × Int × Int,
 Rd (549755813888 : Int) x_3.1 x_3.2.1 ∧ (((0 : Nat) = (0 : Nat) ∧ (List.getD s x.1 Pl.dY).2.2 = x_3.2.2 ∧ True) ∧ (Is (byts b) (byts x_3.1) ∧ x_2.2.2 = x_3.2.1 ∧ True) ∧ True) ∧ ∀ (y : Pl.Rt × Int),
 x_3.2.1 ≤ y.2 ∧ y.2 ≤ x_3.2.1 + (2 : Int) →
 (∃ x_4 : Nat × List Pl.Rt × Pl.Rt × Int,
 (x_4.1 ≤ (List.getD s x.1 Pl.dY).2.1.length ∧ x_4.2.1.length = x_4.1 ∧ p ≤ x_4.2.2.2 ∧ x_4.2.2.2 ≤ p + (100 : Int) * (↑x.1 : Int) + (3 : Int) + (30 : Int) * ((3 : Int) - x_2.1) + (2 : Int) * (↑x_4.1 : Int)) ∧ ((0 : Nat) = (0 : Nat) ∧ (0 : Nat) = (0 : Nat) ∧ (0 : Nat) = (0 : Nat) ∧ ((0 : Nat) = (0 : Nat) ∧ List.length x_2.2.1 = List.length x_2.2.1) ∧ (↑x.1 : Int) = (↑x.1 : Int) ∧ x_2.1 = x_2.1 ∧ (0 : Nat) = (0 : Nat) ∧ (0 : Int) = (↑x_4.1 : Int) ∧ True) ∧ (Is (byts x_3.1) (byts b) ∧ y.2 = x_4.2.2.2 ∧ True) ∧ (Is (syms s) (syms s) ∧ True) ∧ (Is (AV.lit (0 : Nat) (1 : Nat) fun (x x_5 : Nat) => AV.any) nilA ∧ True) ∧ IsO (xrR x_2.2.1) (xrR x_2.2.1) ∧ ((List.getD s x.1 Pl.dY).1 = (List.getD s x.1 Pl.dY).1 ∧ ((0 : Nat) = (0 : Nat) ∧ (0 : Nat) = (0 : Nat) ∧ x_4.2.1.length = (0 : Nat)) ∧ y.1.1 = x_4.2.2.1.1 ∧ y.1.2 = x_4.2.2.1.2 ∧ True) ∧ x_4.2.1.length = (0 : Nat) ∧ True) ∧ ∀ (x_4 : Nat × List Pl.Rt × Pl.Rt × Int),
 x_4.1 ≤ (List.getD s x.1 Pl.dY).2.1.length ∧ x_4.2.1.length = x_4.1 ∧ p ≤ x_4.2.2.2 ∧ x_4.2.2.2 ≤ p + (100 : Int) * (↑x.1 : Int) + (3 : Int) + (30 : Int) * ((3 : Int) - x_2.1) + (2 : Int) * (↑x_4.1 : Int) →
 ((0 : Int) ≤ (↑x.1 : Int) ∧ (↑x.1 : Int) < (↑(List.length s) : Int)) ∧ x.1 < List.length s ∧ condP (decide ((↑x_4.1 : Int) < (↑(List.getD s x.1 Pl.dY).2.1.length : Int)))
 ((((0 : Int) ≤ (↑x.1 : Int) ∧ (↑x.1 : Int) < (↑(List.length s) : Int)) ∧ x.1 < List.length s ∧ ((0 : Int) ≤ (↑x_4.1 : Int) ∧ (↑x_4.1 : Int) < (↑(List.getD s x.1 Pl.dY).2.1.length : Int)) ∧ x_4.1 < (List.getD s x.1 Pl.dY).2.1.length ∧ ∃ x_5 : List Int × Int × Int,
 Rd (549755813888 : Int) x_5.1 x_5.2.1 ∧ (((0 : Nat) = (0 : Nat) ∧ (List.getD s x.1 Pl.dY).2.1.getD x_4.1 (0 : Int) = x_5.2.2 ∧ True) ∧ (Is (byts b) (byts x_5.1) ∧ x_4.2.2.2 = x_5.2.1 ∧ True) ∧ True) ∧ ∀ (y : Pl.Rt × Int),
 x_5.2.1 ≤ y.2 ∧ y.2 ≤ x_5.2.1 + (2 : Int) →
 (0 : Nat) + x_4.2.1.length ≤ x_4.2.1.length ∧ (x_4.2.1.length + (1 : Nat)) * (16 : Nat) ≤ (70368744177664 : Nat) ∧ Exists fun (x' : Nat × List Pl.Rt × Pl.Rt × Int) =>
 (x'.1 ≤ (List.getD s x.1 Pl.dY).2.1.length ∧ x'.2.1.length = x'.1 ∧ p ≤ x'.2.2.2 ∧ x'.2.2.2 ≤
 p + (100 : Int) * (↑x.1 : Int) + (3 : Int) + (30 : Int) * ((3 : Int) - x_2.1) +
 (2 : Int) * (↑x'.1 : Int)) ∧ (List.getD s x.1 Pl.dY).2.1.length - x'.1 < (List.getD s x.1 Pl.dY).2.1.length - x_4.1 ∧ ((0 : Nat) = (0 : Nat) ∧ (0 : Nat) = (0 : Nat) ∧ (0 : Nat) = (0 : Nat) ∧ ((0 : Nat) = (0 : Nat) ∧ List.length x_2.2.1 = List.length x_2.2.1) ∧ (↑x.1 : Int) = (↑x.1 : Int) ∧ x_2.1 = x_2.1 ∧ (0 : Nat) = (0 : Nat) ∧ IntKind.i64.wrap ((↑x_4.1 : Int) + (1 : Int)) = (↑x'.1 : Int) ∧ True) ∧ (Is (byts x_5.1) (byts b) ∧ y.2 = x'.2.2.2 ∧ True) ∧ (Is (syms s) (syms s) ∧ True) ∧ (Is (AV.lit (0 : Nat) (1 : Nat) fun (x x_6 : Nat) => AV.any) nilA ∧ True) ∧ IsO (xrR x_2.2.1) (xrR x_2.2.1) ∧ ((List.getD s x.1 Pl.dY).1 = (List.getD s x.1 Pl.dY).1 ∧ ((0 : Nat) = (0 : Nat) ∧ x_4.2.1.length + (1 : Nat) = x'.2.1.length) ∧ x_4.2.2.1.1 = x'.2.2.1.1 ∧ x_4.2.2.1.2 = x'.2.2.1.2 ∧ True) ∧ IsO
 (AObj.arr (x_4.2.1.length + (1 : Nat)) (2 : Nat)
 (joinC x_4.2.1.length (cQ x_4.2.1)
 (rowsCell [[i64 y.1.1, i64 y.1.2]])))
 (arQ x'.2.1) ∧ True) ∧ ((0 : Int) ≤ (↑x.1 : Int) ∧ (↑x.1 : Int) < (↑(List.length s) : Int)) ∧ x.1 < List.length s ∧ ((0 : Int) ≤ (↑x_4.1 : Int) ∧ (↑x_4.1 : Int) < (↑(List.getD s x.1 Pl.dY).2.1.length : Int)) ∧ x_4.1 < (List.getD s x.1 Pl.dY).2.1.length ∧ (∃ x_5 : List Int × Int × Int,
 Rd (549755813888 : Int) x_5.1 x_5.2.1 ∧ (((0 : Nat) = (0 : Nat) ∧ (List.getD s x.1 Pl.dY).2.1.getD x_4.1 (0 : Int) = x_5.2.2 ∧ True) ∧ (Is (byts b) (byts x_5.1) ∧ x_4.2.2.2 = x_5.2.1 ∧ True) ∧ True) ∧ ∀ (y : Pl.Rt × Int),
 x_5.2.1 ≤ y.2 ∧ y.2 ≤ x_5.2.1 + (2 : Int) →
 (0 : Nat) + x_4.2.1.length ≤ x_4.2.1.length ∧ (x_4.2.1.length + (1 : Nat)) * (16 : Nat) ≤ (70368744177664 : Nat) ∧ Exists fun (x' : Nat × List Pl.Rt × Pl.Rt × Int) =>
 (x'.1 ≤ (List.getD s x.1 Pl.dY).2.1.length ∧ x'.2.1.length = x'.1 ∧ p ≤ x'.2.2.2 ∧ x'.2.2.2 ≤
 p + (100 : Int) * (↑x.1 : Int) + (3 : Int) + (30 : Int) * ((3 : Int) - x_2.1) +
 (2 : Int) * (↑x'.1 : Int)) ∧ (List.getD s x.1 Pl.dY).2.1.length - x'.1 < (List.getD s x.1 Pl.dY).2.1.length - x_4.1 ∧ ((0 : Nat) = (0 : Nat) ∧ (0 : Nat) = (0 : Nat) ∧ (0 : Nat) = (0 : Nat) ∧ ((0 : Nat) = (0 : Nat) ∧ List.length x_2.2.1 = List.length x_2.2.1) ∧ (↑x.1 : Int) = (↑x.1 : Int) ∧ x_2.1 = x_2.1 ∧ (0 : Nat) = (0 : Nat) ∧ IntKind.i64.wrap ((↑x_4.1 : Int) + (1 : Int)) = (↑x'.1 : Int) ∧ True) ∧ (Is (byts x_5.1) (byts b) ∧ y.2 = x'.2.2.2 ∧ True) ∧ (Is (syms s) (syms s) ∧ True) ∧ (Is (AV.lit (0 : Nat) (1 : Nat) fun (x x_6 : Nat) => AV.any) nilA ∧ True) ∧ IsO (xrR x_2.2.1) (xrR x_2.2.1) ∧ ((List.getD s x.1 Pl.dY).1 = (List.getD s x.1 Pl.dY).1 ∧ ((0 : Nat) = (0 : Nat) ∧ x_4.2.1.length + (1 : Nat) = x'.2.1.length) ∧ x_4.2.2.1.1 = x'.2.2.1.1 ∧ x_4.2.2.1.2 = x'.2.2.1.2 ∧ True) ∧ IsO
 (AObj.arr (x_4.2.1.length + (1 : Nat)) (2 : Nat)
 (joinC x_4.2.1.length (cQ x_4.2.1)
 (rowsCell [[i64 y.1.1, i64 y.1.2]])))
 (arQ x'.2.1) ∧ True) ∧ ∃ x_5 : List Int × Int × Int,
 Rd (549755813888 : Int) x_5.1 x_5.2.1 ∧ (((0 : Nat) = (0 : Nat) ∧ (List.getD s x.1 Pl.dY).2.1.getD x_4.1 (0 : Int) = x_5.2.2 ∧ True) ∧ (Is (byts b) (byts x_5.1) ∧ x_4.2.2.2 = x_5.2.1 ∧ True) ∧ True) ∧ ∀ (y : Pl.Rt × Int),
 x_5.2.1 ≤ y.2 ∧ y.2 ≤ x_5.2.1 + (2 : Int) →
 (0 : Nat) + x_4.2.1.length ≤ x_4.2.1.length ∧ (x_4.2.1.length + (1 : Nat)) * (16 : Nat) ≤ (70368744177664 : Nat) ∧ Exists fun (x' : Nat × List Pl.Rt × Pl.Rt × Int) =>
 (x'.1 ≤ (List.getD s x.1 Pl.dY).2.1.length ∧ x'.2.1.length = x'.1 ∧ p ≤ x'.2.2.2 ∧ x'.2.2.2 ≤
 p + (100 : Int) * (↑x.1 : Int) + (3 : Int) + (30 : Int) * ((3 : Int) - x_2.1) +
 (2 : Int) * (↑x'.1 : Int)) ∧ (List.getD s x.1 Pl.dY).2.1.length - x'.1 < (List.getD s x.1 Pl.dY).2.1.length - x_4.1 ∧ ((0 : Nat) = (0 : Nat) ∧ (0 : Nat) = (0 : Nat) ∧ (0 : Nat) = (0 : Nat) ∧ ((0 : Nat) = (0 : Nat) ∧ List.length x_2.2.1 = List.length x_2.2.1) ∧ (↑x.1 : Int) = (↑x.1 : Int) ∧ x_2.1 = x_2.1 ∧ (0 : Nat) = (0 : Nat) ∧ IntKind.i64.wrap ((↑x_4.1 : Int) + (1 : Int)) = (↑x'.1 : Int) ∧ True) ∧ (Is (byts x_5.1) (byts b) ∧ y.2 = x'.2.2.2 ∧ True) ∧ (Is (syms s) (syms s) ∧ True) ∧ (Is (AV.lit (0 : Nat) (1 : Nat) fun (x x_6 : Nat) => AV.any) nilA ∧ True) ∧ IsO (xrR x_2.2.1) (xrR x_2.2.1) ∧ ((List.getD s x.1 Pl.dY).1 = (List.getD s x.1 Pl.dY).1 ∧ ((0 : Nat) = (0 : Nat) ∧ x_4.2.1.length + (1 : Nat) = x'.2.1.length) ∧ x_4.2.2.1.1 = x'.2.2.1.1 ∧ x_4.2.2.1.2 = x'.2.2.1.2 ∧ True) ∧ IsO
 (AObj.arr (x_4.2.1.length + (1 : Nat)) (2 : Nat)
 (joinC x_4.2.1.length (cQ x_4.2.1)
 (rowsCell [[i64 y.1.1, i64 y.1.2]])))
 (arQ x'.2.1) ∧ True)
 (∃ x_5 : List Pl.Rw × Pl.Rw,
 (x_5.1.length ≤ (1000 : Nat) ∧ (∀ (y : Pl.Rw), y ∈ x_5.1 → y.2.1.length ≤ (1000 : Nat)) ∧ x_5.2.2.1.length ≤ (1000 : Nat)) ∧ ((((0 : Nat) = (0 : Nat) ∧ List.length x_2.2.1 = x_5.1.length) ∧ ((List.getD s x.1 Pl.dY).1 = x_5.2.1 ∧ ((0 : Nat) = (0 : Nat) ∧ x_4.2.1.length = x_5.2.2.1.length) ∧ x_4.2.2.1.1 = x_5.2.2.2.1 ∧ x_4.2.2.1.2 = x_5.2.2.2.2 ∧ True) ∧ True) ∧ IsO (xrR x_2.2.1) (xrR x_5.1) ∧ IsO (arQ x_4.2.1) (arQ x_5.2.2.1) ∧ True) ∧ ∀ (y : List Nat),
 HPut x_5.1.length y →
 Exists fun (x' : Int × Pl.Mdl × Int) =>
 ((0 : Int) ≤ x'.1 ∧ x'.1 ≤ (3 : Int) ∧ Pl.MdB ((3 : Nat) * x.1 + (3 : Nat) - x'.1.toNat) (2 : Nat) x'.2.1 ∧ p ≤ x'.2.2 ∧ x'.2.2 ≤ p + (100 : Int) * (↑x.1 : Int) + (1 : Int) + (30 : Int) * ((3 : Int) - x'.1)) ∧ x'.1.toNat < x_2.1.toNat ∧ ((0 : Nat) = (0 : Nat) ∧ (0 : Nat) = (0 : Nat) ∧ (0 : Nat) = (0 : Nat) ∧ ((0 : Nat) = (0 : Nat) ∧ y.length = List.length x'.2.1) ∧ (↑x.1 : Int) = (↑x.1 : Int) ∧ IntKind.i64.wrap (x_2.1 - (1 : Int)) = x'.1 ∧ True) ∧ (Is (byts b) (byts b) ∧ x_4.2.2.2 = x'.2.2 ∧ True) ∧ (Is (syms s) (syms s) ∧ True) ∧ (Is (AV.lit (0 : Nat) (1 : Nat) fun (x x_6 : Nat) => AV.any) nilA ∧ True) ∧ IsO (xrR (List.map (fun (i : Nat) => (x_5.1 ++ [x_5.2]).getD i Pl.dR) y)) (xrR x'.2.1) ∧ True)) ∧ ∃ x_3 : List Int × Int × Int,
 Rd (549755813888 : Int) x_3.1 x_3.2.1 ∧ (((0 : Nat) = (0 : Nat) ∧ (List.getD s x.1 Pl.dY).2.2 = x_3.2.2 ∧ True) ∧ (Is (byts b) (byts x_3.1) ∧ x_2.2.2 = x_3.2.1 ∧ True) ∧ True) ∧ ∀ (y : Pl.Rt × Int),
 x_3.2.1 ≤ y.2 ∧ y.2 ≤ x_3.2.1 + (2 : Int) →
 ((0 : Int) ≤ (↑x.1 : Int) ∧ (↑x.1 : Int) < (↑(List.length s) : Int)) ∧ x.1 < List.length s ∧ (∃ x_4 : Nat × List Pl.Rt × Pl.Rt × Int,
 (x_4.1 ≤ (List.getD s x.1 Pl.dY).2.1.length ∧ x_4.2.1.length = x_4.1 ∧ p ≤ x_4.2.2.2 ∧ x_4.2.2.2 ≤ p + (100 : Int) * (↑x.1 : Int) + (3 : Int) + (30 : Int) * ((3 : Int) - x_2.1) + (2 : Int) * (↑x_4.1 : Int)) ∧ ((0 : Nat) = (0 : Nat) ∧ (0 : Nat) = (0 : Nat) ∧ (0 : Nat) = (0 : Nat) ∧ ((0 : Nat) = (0 : Nat) ∧ List.length x_2.2.1 = List.length x_2.2.1) ∧ (↑x.1 : Int) = (↑x.1 : Int) ∧ x_2.1 = x_2.1 ∧ (0 : Nat) = (0 : Nat) ∧ (0 : Int) = (↑x_4.1 : Int) ∧ True) ∧ (Is (byts x_3.1) (byts b) ∧ y.2 = x_4.2.2.2 ∧ True) ∧ (Is (syms s) (syms s) ∧ True) ∧ (Is (AV.lit (0 : Nat) (1 : Nat) fun (x x_5 : Nat) => AV.any) nilA ∧ True) ∧ IsO (xrR x_2.2.1) (xrR x_2.2.1) ∧ ((List.getD s x.1 Pl.dY).1 = (List.getD s x.1 Pl.dY).1 ∧ ((0 : Nat) = (0 : Nat) ∧ (0 : Nat) = (0 : Nat) ∧ x_4.2.1.length = (0 : Nat)) ∧ y.1.1 = x_4.2.2.1.1 ∧ y.1.2 = x_4.2.2.1.2 ∧ True) ∧ x_4.2.1.length = (0 : Nat) ∧ True) ∧ ∀ (x_4 : Nat × List Pl.Rt × Pl.Rt × Int),
 x_4.1 ≤ (List.getD s x.1 Pl.dY).2.1.length ∧ x_4.2.1.length = x_4.1 ∧ p ≤ x_4.2.2.2 ∧ x_4.2.2.2 ≤ p + (100 : Int) * (↑x.1 : Int) + (3 : Int) + (30 : Int) * ((3 : Int) - x_2.1) + (2 : Int) * (↑x_4.1 : Int) →
 ((0 : Int) ≤ (↑x.1 : Int) ∧ (↑x.1 : Int) < (↑(List.length s) : Int)) ∧ x.1 < List.length s ∧ condP (decide ((↑x_4.1 : Int) < (↑(List.getD s x.1 Pl.dY).2.1.length : Int)))
 ((((0 : Int) ≤ (↑x.1 : Int) ∧ (↑x.1 : Int) < (↑(List.length s) : Int)) ∧ x.1 < List.length s ∧ ((0 : Int) ≤ (↑x_4.1 : Int) ∧ (↑x_4.1 : Int) < (↑(List.getD s x.1 Pl.dY).2.1.length : Int)) ∧ x_4.1 < (List.getD s x.1 Pl.dY).2.1.length ∧ ∃ x_5 : List Int × Int × Int,
 Rd (549755813888 : Int) x_5.1 x_5.2.1 ∧ (((0 : Nat) = (0 : Nat) ∧ (List.getD s x.1 Pl.dY).2.1.getD x_4.1 (0 : Int) = x_5.2.2 ∧ True) ∧ (Is (byts b) (byts x_5.1) ∧ x_4.2.2.2 = x_5.2.1 ∧ True) ∧ True) ∧ ∀ (y : Pl.Rt × Int),
 x_5.2.1 ≤ y.2 ∧ y.2 ≤ x_5.2.1 + (2 : Int) →
 (0 : Nat) + x_4.2.1.length ≤ x_4.2.1.length ∧ (x_4.2.1.length + (1 : Nat)) * (16 : Nat) ≤ (70368744177664 : Nat) ∧ Exists fun (x' : Nat × List Pl.Rt × Pl.Rt × Int) =>
 (x'.1 ≤ (List.getD s x.1 Pl.dY).2.1.length ∧ x'.2.1.length = x'.1 ∧ p ≤ x'.2.2.2 ∧ x'.2.2.2 ≤
 p + (100 : Int) * (↑x.1 : Int) + (3 : Int) + (30 : Int) * ((3 : Int) - x_2.1) +
 (2 : Int) * (↑x'.1 : Int)) ∧ (List.getD s x.1 Pl.dY).2.1.length - x'.1 < (List.getD s x.1 Pl.dY).2.1.length - x_4.1 ∧ ((0 : Nat) = (0 : Nat) ∧ (0 : Nat) = (0 : Nat) ∧ (0 : Nat) = (0 : Nat) ∧ ((0 : Nat) = (0 : Nat) ∧ List.length x_2.2.1 = List.length x_2.2.1) ∧ (↑x.1 : Int) = (↑x.1 : Int) ∧ x_2.1 = x_2.1 ∧ (0 : Nat) = (0 : Nat) ∧ IntKind.i64.wrap ((↑x_4.1 : Int) + (1 : Int)) = (↑x'.1 : Int) ∧ True) ∧ (Is (byts x_5.1) (byts b) ∧ y.2 = x'.2.2.2 ∧ True) ∧ (Is (syms s) (syms s) ∧ True) ∧ (Is (AV.lit (0 : Nat) (1 : Nat) fun (x x_6 : Nat) => AV.any) nilA ∧ True) ∧ IsO (xrR x_2.2.1) (xrR x_2.2.1) ∧ ((List.getD s x.1 Pl.dY).1 = (List.getD s x.1 Pl.dY).1 ∧ ((0 : Nat) = (0 : Nat) ∧ x_4.2.1.length + (1 : Nat) = x'.2.1.length) ∧ x_4.2.2.1.1 = x'.2.2.1.1 ∧ x_4.2.2.1.2 = x'.2.2.1.2 ∧ True) ∧ IsO
 (AObj.arr (x_4.2.1.length + (1 : Nat)) (2 : Nat)
 (joinC x_4.2.1.length (cQ x_4.2.1)
 (rowsCell [[i64 y.1.1, i64 y.1.2]])))
 (arQ x'.2.1) ∧ True) ∧ ((0 : Int) ≤ (↑x.1 : Int) ∧ (↑x.1 : Int) < (↑(List.length s) : Int)) ∧ x.1 < List.length s ∧ ((0 : Int) ≤ (↑x_4.1 : Int) ∧ (↑x_4.1 : Int) < (↑(List.getD s x.1 Pl.dY).2.1.length : Int)) ∧ x_4.1 < (List.getD s x.1 Pl.dY).2.1.length ∧ (∃ x_5 : List Int × Int × Int,
 Rd (549755813888 : Int) x_5.1 x_5.2.1 ∧ (((0 : Nat) = (0 : Nat) ∧ (List.getD s x.1 Pl.dY).2.1.getD x_4.1 (0 : Int) = x_5.2.2 ∧ True) ∧ (Is (byts b) (byts x_5.1) ∧ x_4.2.2.2 = x_5.2.1 ∧ True) ∧ True) ∧ ∀ (y : Pl.Rt × Int),
 x_5.2.1 ≤ y.2 ∧ y.2 ≤ x_5.2.1 + (2 : Int) →
 (0 : Nat) + x_4.2.1.length ≤ x_4.2.1.length ∧ (x_4.2.1.length + (1 : Nat)) * (16 : Nat) ≤ (70368744177664 : Nat) ∧ Exists fun (x' : Nat × List Pl.Rt × Pl.Rt × Int) =>
 (x'.1 ≤ (List.getD s x.1 Pl.dY).2.1.length ∧ x'.2.1.length = x'.1 ∧ p ≤ x'.2.2.2 ∧ x'.2.2.2 ≤
 p + (100 : Int) * (↑x.1 : Int) + (3 : Int) + (30 : Int) * ((3 : Int) - x_2.1) +
 (2 : Int) * (↑x'.1 : Int)) ∧ (List.getD s x.1 Pl.dY).2.1.length - x'.1 < (List.getD s x.1 Pl.dY).2.1.length - x_4.1 ∧ ((0 : Nat) = (0 : Nat) ∧ (0 : Nat) = (0 : Nat) ∧ (0 : Nat) = (0 : Nat) ∧ ((0 : Nat) = (0 : Nat) ∧ List.length x_2.2.1 = List.length x_2.2.1) ∧ (↑x.1 : Int) = (↑x.1 : Int) ∧ x_2.1 = x_2.1 ∧ (0 : Nat) = (0 : Nat) ∧ IntKind.i64.wrap ((↑x_4.1 : Int) + (1 : Int)) = (↑x'.1 : Int) ∧ True) ∧ (Is (byts x_5.1) (byts b) ∧ y.2 = x'.2.2.2 ∧ True) ∧ (Is (syms s) (syms s) ∧ True) ∧ (Is (AV.lit (0 : Nat) (1 : Nat) fun (x x_6 : Nat) => AV.any) nilA ∧ True) ∧ IsO (xrR x_2.2.1) (xrR x_2.2.1) ∧ ((List.getD s x.1 Pl.dY).1 = (List.getD s x.1 Pl.dY).1 ∧ ((0 : Nat) = (0 : Nat) ∧ x_4.2.1.length + (1 : Nat) = x'.2.1.length) ∧ x_4.2.2.1.1 = x'.2.2.1.1 ∧ x_4.2.2.1.2 = x'.2.2.1.2 ∧ True) ∧ IsO
 (AObj.arr (x_4.2.1.length + (1 : Nat)) (2 : Nat)
 (joinC x_4.2.1.length (cQ x_4.2.1)
 (rowsCell [[i64 y.1.1, i64 y.1.2]])))
 (arQ x'.2.1) ∧ True) ∧ ∃ x_5 : List Int × Int × Int,
 Rd (549755813888 : Int) x_5.1 x_5.2.1 ∧ (((0 : Nat) = (0 : Nat) ∧ (List.getD s x.1 Pl.dY).2.1.getD x_4.1 (0 : Int) = x_5.2.2 ∧ True) ∧ (Is (byts b) (byts x_5.1) ∧ x_4.2.2.2 = x_5.2.1 ∧ True) ∧ True) ∧ ∀ (y : Pl.Rt × Int),
 x_5.2.1 ≤ y.2 ∧ y.2 ≤ x_5.2.1 + (2 : Int) →
 (0 : Nat) + x_4.2.1.length ≤ x_4.2.1.length ∧ (x_4.2.1.length + (1 : Nat)) * (16 : Nat) ≤ (70368744177664 : Nat) ∧ Exists fun (x' : Nat × List Pl.Rt × Pl.Rt × Int) =>
 (x'.1 ≤ (List.getD s x.1 Pl.dY).2.1.length ∧ x'.2.1.length = x'.1 ∧ p ≤ x'.2.2.2 ∧ x'.2.2.2 ≤
 p + (100 : Int) * (↑x.1 : Int) + (3 : Int) + (30 : Int) * ((3 : Int) - x_2.1) +
 (2 : Int) * (↑x'.1 : Int)) ∧ (List.getD s x.1 Pl.dY).2.1.length - x'.1 < (List.getD s x.1 Pl.dY).2.1.length - x_4.1 ∧ ((0 : Nat) = (0 : Nat) ∧ (0 : Nat) = (0 : Nat) ∧ (0 : Nat) = (0 : Nat) ∧ ((0 : Nat) = (0 : Nat) ∧ List.length x_2.2.1 = List.length x_2.2.1) ∧ (↑x.1 : Int) = (↑x.1 : Int) ∧ x_2.1 = x_2.1 ∧ (0 : Nat) = (0 : Nat) ∧ IntKind.i64.wrap ((↑x_4.1 : Int) + (1 : Int)) = (↑x'.1 : Int) ∧ True) ∧ (Is (byts x_5.1) (byts b) ∧ y.2 = x'.2.2.2 ∧ True) ∧ (Is (syms s) (syms s) ∧ True) ∧ (Is (AV.lit (0 : Nat) (1 : Nat) fun (x x_6 : Nat) => AV.any) nilA ∧ True) ∧ IsO (xrR x_2.2.1) (xrR x_2.2.1) ∧ ((List.getD s x.1 Pl.dY).1 = (List.getD s x.1 Pl.dY).1 ∧ ((0 : Nat) = (0 : Nat) ∧ x_4.2.1.length + (1 : Nat) = x'.2.1.length) ∧ x_4.2.2.1.1 = x'.2.2.1.1 ∧ x_4.2.2.1.2 = x'.2.2.1.2 ∧ True) ∧ IsO
 (AObj.arr (x_4.2.1.length + (1 : Nat)) (2 : Nat)
 (joinC x_4.2.1.length (cQ x_4.2.1)
 (rowsCell [[i64 y.1.1, i64 y.1.2]])))
 (arQ x'.2.1) ∧ True)
 (∃ x_5 : List Pl.Rw × Pl.Rw,
 (x_5.1.length ≤ (1000 : Nat) ∧ (∀ (y : Pl.Rw), y ∈ x_5.1 → y.2.1.length ≤ (1000 : Nat)) ∧ x_5.2.2.1.length ≤ (1000 : Nat)) ∧ ((((0 : Nat) = (0 : Nat) ∧ List.length x_2.2.1 = x_5.1.length) ∧ ((List.getD s x.1 Pl.dY).1 = x_5.2.1 ∧ ((0 : Nat) = (0 : Nat) ∧ x_4.2.1.length = x_5.2.2.1.length) ∧ x_4.2.2.1.1 = x_5.2.2.2.1 ∧ x_4.2.2.1.2 = x_5.2.2.2.2 ∧ True) ∧ True) ∧ IsO (xrR x_2.2.1) (xrR x_5.1) ∧ IsO (arQ x_4.2.1) (arQ x_5.2.2.1) ∧ True) ∧ ∀ (y : List Nat),
 HPut x_5.1.length y →
 Exists fun (x' : Int × Pl.Mdl × Int) =>
 ((0 : Int) ≤ x'.1 ∧ x'.1 ≤ (3 : Int) ∧ Pl.MdB ((3 : Nat) * x.1 + (3 : Nat) - x'.1.toNat) (2 : Nat) x'.2.1 ∧ p ≤ x'.2.2 ∧ x'.2.2 ≤ p + (100 : Int) * (↑x.1 : Int) + (1 : Int) + (30 : Int) * ((3 : Int) - x'.1)) ∧ x'.1.toNat < x_2.1.toNat ∧ ((0 : Nat) = (0 : Nat) ∧ (0 : Nat) = (0 : Nat) ∧ (0 : Nat) = (0 : Nat) ∧ ((0 : Nat) = (0 : Nat) ∧ y.length = List.length x'.2.1) ∧ (↑x.1 : Int) = (↑x.1 : Int) ∧ IntKind.i64.wrap (x_2.1 - (1 : Int)) = x'.1 ∧ True) ∧ (Is (byts b) (byts b) ∧ x_4.2.2.2 = x'.2.2 ∧ True) ∧ (Is (syms s) (syms s) ∧ True) ∧ (Is (AV.lit (0 : Nat) (1 : Nat) fun (x x_6 : Nat) => AV.any) nilA ∧ True) ∧ IsO (xrR (List.map (fun (i : Nat) => (x_5.1 ++ [x_5.2]).getD i Pl.dR) y)) (xrR x'.2.1) ∧ True)) ∧ (((0 : Int) ≤ (↑x.1 : Int) ∧ (↑x.1 : Int) < (↑(List.length s) : Int)) ∧ x.1 < List.length s ∧ ((0 : Int) ≤ (↑x.1 : Int) ∧ (↑x.1 : Int) < (↑(List.length s) : Int)) ∧ x.1 < List.length s ∧ ∃ x_3 : List Int × Int × Int,
 Rd (549755813888 : Int) x_3.1 x_3.2.1 ∧ (((0 : Nat) = (0 : Nat) ∧ (List.getD s x.1 Pl.dY).2.2 = x_3.2.2 ∧ True) ∧ (Is (byts b) (byts x_3.1) ∧ x_2.2.2 = x_3.2.1 ∧ True) ∧ True) ∧ ∀ (y : Pl.Rt × Int),
 x_3.2.1 ≤ y.2 ∧ y.2 ≤ x_3.2.1 + (2 : Int) →
 (∃ x_4 : Nat × List Pl.Rt × Pl.Rt × Int,
 (x_4.1 ≤ (List.getD s x.1 Pl.dY).2.1.length ∧ x_4.2.1.length = x_4.1 ∧ p ≤ x_4.2.2.2 ∧ x_4.2.2.2 ≤ p + (100 : Int) * (↑x.1 : Int) + (3 : Int) + (30 : Int) * ((3 : Int) - x_2.1) + (2 : Int) * (↑x_4.1 : Int)) ∧ ((0 : Nat) = (0 : Nat) ∧ (0 : Nat) = (0 : Nat) ∧ (0 : Nat) = (0 : Nat) ∧ ((0 : Nat) = (0 : Nat) ∧ List.length x_2.2.1 = List.length x_2.2.1) ∧ (↑x.1 : Int) = (↑x.1 : Int) ∧ x_2.1 = x_2.1 ∧ (0 : Nat) = (0 : Nat) ∧ (0 : Int) = (↑x_4.1 : Int) ∧ True) ∧ (Is (byts x_3.1) (byts b) ∧ y.2 = x_4.2.2.2 ∧ True) ∧ (Is (syms s) (syms s) ∧ True) ∧ (Is (AV.lit (0 : Nat) (1 : Nat) fun (x x_5 : Nat) => AV.any) nilA ∧ True) ∧ IsO (xrR x_2.2.1) (xrR x_2.2.1) ∧ ((List.getD s x.1 Pl.dY).1 = (List.getD s x.1 Pl.dY).1 ∧ ((0 : Nat) = (0 : Nat) ∧ (0 : Nat) = (0 : Nat) ∧ x_4.2.1.length = (0 : Nat)) ∧ y.1.1 = x_4.2.2.1.1 ∧ y.1.2 = x_4.2.2.1.2 ∧ True) ∧ x_4.2.1.length = (0 : Nat) ∧ True) ∧ ∀ (x_4 : Nat × List Pl.Rt × Pl.Rt × Int),
 x_4.1 ≤ (List.getD s x.1 Pl.dY).2.1.length ∧ x_4.2.1.length = x_4.1 ∧ p ≤ x_4.2.2.2 ∧ x_4.2.2.2 ≤ p + (100 : Int) * (↑x.1 : Int) + (3 : Int) + (30 : Int) * ((3 : Int) - x_2.1) + (2 : Int) * (↑x_4.1 : Int) →
 ((0 : Int) ≤ (↑x.1 : Int) ∧ (↑x.1 : Int) < (↑(List.length s) : Int)) ∧ x.1 < List.length s ∧ condP (decide ((↑x_4.1 : Int) < (↑(List.getD s x.1 Pl.dY).2.1.length : Int)))
 ((((0 : Int) ≤ (↑x.1 : Int) ∧ (↑x.1 : Int) < (↑(List.length s) : Int)) ∧ x.1 < List.length s ∧ ((0 : Int) ≤ (↑x_4.1 : Int) ∧ (↑x_4.1 : Int) < (↑(List.getD s x.1 Pl.dY).2.1.length : Int)) ∧ x_4.1 < (List.getD s x.1 Pl.dY).2.1.length ∧ ∃ x_5 : List Int × Int × Int,
 Rd (549755813888 : Int) x_5.1 x_5.2.1 ∧ (((0 : Nat) = (0 : Nat) ∧ (List.getD s x.1 Pl.dY).2.1.getD x_4.1 (0 : Int) = x_5.2.2 ∧ True) ∧ (Is (byts b) (byts x_5.1) ∧ x_4.2.2.2 = x_5.2.1 ∧ True) ∧ True) ∧ ∀ (y : Pl.Rt × Int),
 x_5.2.1 ≤ y.2 ∧ y.2 ≤ x_5.2.1 + (2 : Int) →
 (0 : Nat) + x_4.2.1.length ≤ x_4.2.1.length ∧ (x_4.2.1.length + (1 : Nat)) * (16 : Nat) ≤ (70368744177664 : Nat) ∧ Exists fun (x' : Nat × List Pl.Rt × Pl.Rt × Int) =>
 (x'.1 ≤ (List.getD s x.1 Pl.dY).2.1.length ∧ x'.2.1.length = x'.1 ∧ p ≤ x'.2.2.2 ∧ x'.2.2.2 ≤
 p + (100 : Int) * (↑x.1 : Int) + (3 : Int) + (30 : Int) * ((3 : Int) - x_2.1) +
 (2 : Int) * (↑x'.1 : Int)) ∧ (List.getD s x.1 Pl.dY).2.1.length - x'.1 < (List.getD s x.1 Pl.dY).2.1.length - x_4.1 ∧ ((0 : Nat) = (0 : Nat) ∧ (0 : Nat) = (0 : Nat) ∧ (0 : Nat) = (0 : Nat) ∧ ((0 : Nat) = (0 : Nat) ∧ List.length x_2.2.1 = List.length x_2.2.1) ∧ (↑x.1 : Int) = (↑x.1 : Int) ∧ x_2.1 = x_2.1 ∧ (0 : Nat) = (0 : Nat) ∧ IntKind.i64.wrap ((↑x_4.1 : Int) + (1 : Int)) = (↑x'.1 : Int) ∧ True) ∧ (Is (byts x_5.1) (byts b) ∧ y.2 = x'.2.2.2 ∧ True) ∧ (Is (syms s) (syms s) ∧ True) ∧ (Is (AV.lit (0 : Nat) (1 : Nat) fun (x x_6 : Nat) => AV.any) nilA ∧ True) ∧ IsO (xrR x_2.2.1) (xrR x_2.2.1) ∧ ((List.getD s x.1 Pl.dY).1 = (List.getD s x.1 Pl.dY).1 ∧ ((0 : Nat) = (0 : Nat) ∧ x_4.2.1.length + (1 : Nat) = x'.2.1.length) ∧ x_4.2.2.1.1 = x'.2.2.1.1 ∧ x_4.2.2.1.2 = x'.2.2.1.2 ∧ True) ∧ IsO
 (AObj.arr (x_4.2.1.length + (1 : Nat)) (2 : Nat)
 (joinC x_4.2.1.length (cQ x_4.2.1)
 (rowsCell [[i64 y.1.1, i64 y.1.2]])))
 (arQ x'.2.1) ∧ True) ∧ ((0 : Int) ≤ (↑x.1 : Int) ∧ (↑x.1 : Int) < (↑(List.length s) : Int)) ∧ x.1 < List.length s ∧ ((0 : Int) ≤ (↑x_4.1 : Int) ∧ (↑x_4.1 : Int) < (↑(List.getD s x.1 Pl.dY).2.1.length : Int)) ∧ x_4.1 < (List.getD s x.1 Pl.dY).2.1.length ∧ (∃ x_5 : List Int × Int × Int,
 Rd (549755813888 : Int) x_5.1 x_5.2.1 ∧ (((0 : Nat) = (0 : Nat) ∧ (List.getD s x.1 Pl.dY).2.1.getD x_4.1 (0 : Int) = x_5.2.2 ∧ True) ∧ (Is (byts b) (byts x_5.1) ∧ x_4.2.2.2 = x_5.2.1 ∧ True) ∧ True) ∧ ∀ (y : Pl.Rt × Int),
 x_5.2.1 ≤ y.2 ∧ y.2 ≤ x_5.2.1 + (2 : Int) →
 (0 : Nat) + x_4.2.1.length ≤ x_4.2.1.length ∧ (x_4.2.1.length + (1 : Nat)) * (16 : Nat) ≤ (70368744177664 : Nat) ∧ Exists fun (x' : Nat × List Pl.Rt × Pl.Rt × Int) =>
 (x'.1 ≤ (List.getD s x.1 Pl.dY).2.1.length ∧ x'.2.1.length = x'.1 ∧ p ≤ x'.2.2.2 ∧ x'.2.2.2 ≤
 p + (100 : Int) * (↑x.1 : Int) + (3 : Int) + (30 : Int) * ((3 : Int) - x_2.1) +
 (2 : Int) * (↑x'.1 : Int)) ∧ (List.getD s x.1 Pl.dY).2.1.length - x'.1 < (List.getD s x.1 Pl.dY).2.1.length - x_4.1 ∧ ((0 : Nat) = (0 : Nat) ∧ (0 : Nat) = (0 : Nat) ∧ (0 : Nat) = (0 : Nat) ∧ ((0 : Nat) = (0 : Nat) ∧ List.length x_2.2.1 = List.length x_2.2.1) ∧ (↑x.1 : Int) = (↑x.1 : Int) ∧ x_2.1 = x_2.1 ∧ (0 : Nat) = (0 : Nat) ∧ IntKind.i64.wrap ((↑x_4.1 : Int) + (1 : Int)) = (↑x'.1 : Int) ∧ True) ∧ (Is (byts x_5.1) (byts b) ∧ y.2 = x'.2.2.2 ∧ True) ∧ (Is (syms s) (syms s) ∧ True) ∧ (Is (AV.lit (0 : Nat) (1 : Nat) fun (x x_6 : Nat) => AV.any) nilA ∧ True) ∧ IsO (xrR x_2.2.1) (xrR x_2.2.1) ∧ ((List.getD s x.1 Pl.dY).1 = (List.getD s x.1 Pl.dY).1 ∧ ((0 : Nat) = (0 : Nat) ∧ x_4.2.1.length + (1 : Nat) = x'.2.1.length) ∧ x_4.2.2.1.1 = x'.2.2.1.1 ∧ x_4.2.2.1.2 = x'.2.2.1.2 ∧ True) ∧ IsO
 (AObj.arr (x_4.2.1.length + (1 : Nat)) (2 : Nat)
 (joinC x_4.2.1.length (cQ x_4.2.1)
 (rowsCell [[i64 y.1.1, i64 y.1.2]])))
 (arQ x'.2.1) ∧ True) ∧ ∃ x_5 : List Int × Int × Int,
 Rd (549755813888 : Int) x_5.1 x_5.2.1 ∧ (((0 : Nat) = (0 : Nat) ∧ (List.getD s x.1 Pl.dY).2.1.getD x_4.1 (0 : Int) = x_5.2.2 ∧ True) ∧ (Is (byts b) (byts x_5.1) ∧ x_4.2.2.2 = x_5.2.1 ∧ True) ∧ True) ∧ ∀ (y : Pl.Rt × Int),
 x_5.2.1 ≤ y.2 ∧ y.2 ≤ x_5.2.1 + (2 : Int) →
 (0 : Nat) + x_4.2.1.length ≤ x_4.2.1.length ∧ (x_4.2.1.length + (1 : Nat)) * (16 : Nat) ≤ (70368744177664 : Nat) ∧ Exists fun (x' : Nat × List Pl.Rt × Pl.Rt × Int) =>
 (x'.1 ≤ (List.getD s x.1 Pl.dY).2.1.length ∧ x'.2.1.length = x'.1 ∧ p ≤ x'.2.2.2 ∧ x'.2.2.2 ≤
 p + (100 : Int) * (↑x.1 : Int) + (3 : Int) + (30 : Int) * ((3 : Int) - x_2.1) +
 (2 : Int) * (↑x'.1 : Int)) ∧ (List.getD s x.1 Pl.dY).2.1.length - x'.1 < (List.getD s x.1 Pl.dY).2.1.length - x_4.1 ∧ ((0 : Nat) = (0 : Nat) ∧ (0 : Nat) = (0 : Nat) ∧ (0 : Nat) = (0 : Nat) ∧ ((0 : Nat) = (0 : Nat) ∧ List.length x_2.2.1 = List.length x_2.2.1) ∧ (↑x.1 : Int) = (↑x.1 : Int) ∧ x_2.1 = x_2.1 ∧ (0 : Nat) = (0 : Nat) ∧ IntKind.i64.wrap ((↑x_4.1 : Int) + (1 : Int)) = (↑x'.1 : Int) ∧ True) ∧ (Is (byts x_5.1) (byts b) ∧ y.2 = x'.2.2.2 ∧ True) ∧ (Is (syms s) (syms s) ∧ True) ∧ (Is (AV.lit (0 : Nat) (1 : Nat) fun (x x_6 : Nat) => AV.any) nilA ∧ True) ∧ IsO (xrR x_2.2.1) (xrR x_2.2.1) ∧ ((List.getD s x.1 Pl.dY).1 = (List.getD s x.1 Pl.dY).1 ∧ ((0 : Nat) = (0 : Nat) ∧ x_4.2.1.length + (1 : Nat) = x'.2.1.length) ∧ x_4.2.2.1.1 = x'.2.2.1.1 ∧ x_4.2.2.1.2 = x'.2.2.1.2 ∧ True) ∧ IsO
 (AObj.arr (x_4.2.1.length + (1 : Nat)) (2 : Nat)
 (joinC x_4.2.1.length (cQ x_4.2.1)
 (rowsCell [[i64 y.1.1, i64 y.1.2]])))
 (arQ x'.2.1) ∧ True)
 (∃ x_5 : List Pl.Rw × Pl.Rw,
 (x_5.1.length ≤ (1000 : Nat) ∧ (∀ (y : Pl.Rw), y ∈ x_5.1 → y.2.1.length ≤ (1000 : Nat)) ∧ x_5.2.2.1.length ≤ (1000 : Nat)) ∧ ((((0 : Nat) = (0 : Nat) ∧ List.length x_2.2.1 = x_5.1.length) ∧ ((List.getD s x.1 Pl.dY).1 = x_5.2.1 ∧ ((0 : Nat) = (0 : Nat) ∧ x_4.2.1.length = x_5.2.2.1.length) ∧ x_4.2.2.1.1 = x_5.2.2.2.1 ∧ x_4.2.2.1.2 = x_5.2.2.2.2 ∧ True) ∧ True) ∧ IsO (xrR x_2.2.1) (xrR x_5.1) ∧ IsO (arQ x_4.2.1) (arQ x_5.2.2.1) ∧ True) ∧ ∀ (y : List Nat),
 HPut x_5.1.length y →
 Exists fun (x' : Int × Pl.Mdl × Int) =>
 ((0 : Int) ≤ x'.1 ∧ x'.1 ≤ (3 : Int) ∧ Pl.MdB ((3 : Nat) * x.1 + (3 : Nat) - x'.1.toNat) (2 : Nat) x'.2.1 ∧ p ≤ x'.2.2 ∧ x'.2.2 ≤ p + (100 : Int) * (↑x.1 : Int) + (1 : Int) + (30 : Int) * ((3 : Int) - x'.1)) ∧ x'.1.toNat < x_2.1.toNat ∧ ((0 : Nat) = (0 : Nat) ∧ (0 : Nat) = (0 : Nat) ∧ (0 : Nat) = (0 : Nat) ∧ ((0 : Nat) = (0 : Nat) ∧ y.length = List.length x'.2.1) ∧ (↑x.1 : Int) = (↑x.1 : Int) ∧ IntKind.i64.wrap (x_2.1 - (1 : Int)) = x'.1 ∧ True) ∧ (Is (byts b) (byts b) ∧ x_4.2.2.2 = x'.2.2 ∧ True) ∧ (Is (syms s) (syms s) ∧ True) ∧ (Is (AV.lit (0 : Nat) (1 : Nat) fun (x x_6 : Nat) => AV.any) nilA ∧ True) ∧ IsO (xrR (List.map (fun (i : Nat) => (x_5.1 ++ [x_5.2]).getD i Pl.dR) y)) (xrR x'.2.1) ∧ True)) ∧ ((0 : Int) ≤ (↑x.1 : Int) ∧ (↑x.1 : Int) < (↑(List.length s) : Int)) ∧ x.1 < List.length s ∧ (((0 : Int) ≤ (↑x.1 : Int) ∧ (↑x.1 : Int) < (↑(List.length s) : Int)) ∧ x.1 < List.length s ∧ ∃ x_3 : List Int × Int × Int,
 Rd (549755813888 : Int) x_3.1 x_3.2.1 ∧ (((0 : Nat) = (0 : Nat) ∧ (List.getD s x.1 Pl.dY).2.2 = x_3.2.2 ∧ True) ∧ (Is (byts b) (byts x_3.1) ∧ x_2.2.2 = x_3.2.1 ∧ True) ∧ True) ∧ ∀ (y : Pl.Rt × Int),
 x_3.2.1 ≤ y.2 ∧ y.2 ≤ x_3.2.1 + (2 : Int) →
 (∃ x_4 : Nat × List Pl.Rt × Pl.Rt × Int,
 (x_4.1 ≤ (List.getD s x.1 Pl.dY).2.1.length ∧ x_4.2.1.length = x_4.1 ∧ p ≤ x_4.2.2.2 ∧ x_4.2.2.2 ≤ p + (100 : Int) * (↑x.1 : Int) + (3 : Int) + (30 : Int) * ((3 : Int) - x_2.1) + (2 : Int) * (↑x_4.1 : Int)) ∧ ((0 : Nat) = (0 : Nat) ∧ (0 : Nat) = (0 : Nat) ∧ (0 : Nat) = (0 : Nat) ∧ ((0 : Nat) = (0 : Nat) ∧ List.length x_2.2.1 = List.length x_2.2.1) ∧ (↑x.1 : Int) = (↑x.1 : Int) ∧ x_2.1 = x_2.1 ∧ (0 : Nat) = (0 : Nat) ∧ (0 : Int) = (↑x_4.1 : Int) ∧ True) ∧ (Is (byts x_3.1) (byts b) ∧ y.2 = x_4.2.2.2 ∧ True) ∧ (Is (syms s) (syms s) ∧ True) ∧ (Is (AV.lit (0 : Nat) (1 : Nat) fun (x x_5 : Nat) => AV.any) nilA ∧ True) ∧ IsO (xrR x_2.2.1) (xrR x_2.2.1) ∧ ((List.getD s x.1 Pl.dY).1 = (List.getD s x.1 Pl.dY).1 ∧ ((0 : Nat) = (0 : Nat) ∧ (0 : Nat) = (0 : Nat) ∧ x_4.2.1.length = (0 : Nat)) ∧ y.1.1 = x_4.2.2.1.1 ∧ y.1.2 = x_4.2.2.1.2 ∧ True) ∧ x_4.2.1.length = (0 : Nat) ∧ True) ∧ ∀ (x_4 : Nat × List Pl.Rt × Pl.Rt × Int),
 x_4.1 ≤ (List.getD s x.1 Pl.dY).2.1.length ∧ x_4.2.1.length = x_4.1 ∧ p ≤ x_4.2.2.2 ∧ x_4.2.2.2 ≤ p + (100 : Int) * (↑x.1 : Int) + (3 : Int) + (30 : Int) * ((3 : Int) - x_2.1) + (2 : Int) * (↑x_4.1 : Int) →
 ((0 : Int) ≤ (↑x.1 : Int) ∧ (↑x.1 : Int) < (↑(List.length s) : Int)) ∧ x.1 < List.length s ∧ condP (decide ((↑x_4.1 : Int) < (↑(List.getD s x.1 Pl.dY).2.1.length : Int)))
 ((((0 : Int) ≤ (↑x.1 : Int) ∧ (↑x.1 : Int) < (↑(List.length s) : Int)) ∧ x.1 < List.length s ∧ ((0 : Int) ≤ (↑x_4.1 : Int) ∧ (↑x_4.1 : Int) < (↑(List.getD s x.1 Pl.dY).2.1.length : Int)) ∧ x_4.1 < (List.getD s x.1 Pl.dY).2.1.length ∧ ∃ x_5 : List Int × Int × Int,
 Rd (549755813888 : Int) x_5.1 x_5.2.1 ∧ (((0 : Nat) = (0 : Nat) ∧ (List.getD s x.1 Pl.dY).2.1.getD x_4.1 (0 : Int) = x_5.2.2 ∧ True) ∧ (Is (byts b) (byts x_5.1) ∧ x_4.2.2.2 = x_5.2.1 ∧ True) ∧ True) ∧ ∀ (y : Pl.Rt × Int),
 x_5.2.1 ≤ y.2 ∧ y.2 ≤ x_5.2.1 + (2 : Int) →
 (0 : Nat) + x_4.2.1.length ≤ x_4.2.1.length ∧ (x_4.2.1.length + (1 : Nat)) * (16 : Nat) ≤ (70368744177664 : Nat) ∧ Exists fun (x' : Nat × List Pl.Rt × Pl.Rt × Int) =>
 (x'.1 ≤ (List.getD s x.1 Pl.dY).2.1.length ∧ x'.2.1.length = x'.1 ∧ p ≤ x'.2.2.2 ∧ x'.2.2.2 ≤
 p + (100 : Int) * (↑x.1 : Int) + (3 : Int) + (30 : Int) * ((3 : Int) - x_2.1) +
 (2 : Int) * (↑x'.1 : Int)) ∧ (List.getD s x.1 Pl.dY).2.1.length - x'.1 < (List.getD s x.1 Pl.dY).2.1.length - x_4.1 ∧ ((0 : Nat) = (0 : Nat) ∧ (0 : Nat) = (0 : Nat) ∧ (0 : Nat) = (0 : Nat) ∧ ((0 : Nat) = (0 : Nat) ∧ List.length x_2.2.1 = List.length x_2.2.1) ∧ (↑x.1 : Int) = (↑x.1 : Int) ∧ x_2.1 = x_2.1 ∧ (0 : Nat) = (0 : Nat) ∧ IntKind.i64.wrap ((↑x_4.1 : Int) + (1 : Int)) = (↑x'.1 : Int) ∧ True) ∧ (Is (byts x_5.1) (byts b) ∧ y.2 = x'.2.2.2 ∧ True) ∧ (Is (syms s) (syms s) ∧ True) ∧ (Is (AV.lit (0 : Nat) (1 : Nat) fun (x x_6 : Nat) => AV.any) nilA ∧ True) ∧ IsO (xrR x_2.2.1) (xrR x_2.2.1) ∧ ((List.getD s x.1 Pl.dY).1 = (List.getD s x.1 Pl.dY).1 ∧ ((0 : Nat) = (0 : Nat) ∧ x_4.2.1.length + (1 : Nat) = x'.2.1.length) ∧ x_4.2.2.1.1 = x'.2.2.1.1 ∧ x_4.2.2.1.2 = x'.2.2.1.2 ∧ True) ∧ IsO
 (AObj.arr (x_4.2.1.length + (1 : Nat)) (2 : Nat)
 (joinC x_4.2.1.length (cQ x_4.2.1)
 (rowsCell [[i64 y.1.1, i64 y.1.2]])))
 (arQ x'.2.1) ∧ True) ∧ ((0 : Int) ≤ (↑x.1 : Int) ∧ (↑x.1 : Int) < (↑(List.length s) : Int)) ∧ x.1 < List.length s ∧ ((0 : Int) ≤ (↑x_4.1 : Int) ∧ (↑x_4.1 : Int) < (↑(List.getD s x.1 Pl.dY).2.1.length : Int)) ∧ x_4.1 < (List.getD s x.1 Pl.dY).2.1.length ∧ (∃ x_5 : List Int × Int × Int,
 Rd (549755813888 : Int) x_5.1 x_5.2.1 ∧ (((0 : Nat) = (0 : Nat) ∧ (List.getD s x.1 Pl.dY).2.1.getD x_4.1 (0 : Int) = x_5.2.2 ∧ True) ∧ (Is (byts b) (byts x_5.1) ∧ x_4.2.2.2 = x_5.2.1 ∧ True) ∧ True) ∧ ∀ (y : Pl.Rt × Int),
 x_5.2.1 ≤ y.2 ∧ y.2 ≤ x_5.2.1 + (2 : Int) →
 (0 : Nat) + x_4.2.1.length ≤ x_4.2.1.length ∧ (x_4.2.1.length + (1 : Nat)) * (16 : Nat) ≤ (70368744177664 : Nat) ∧ Exists fun (x' : Nat × List Pl.Rt × Pl.Rt × Int) =>
 (x'.1 ≤ (List.getD s x.1 Pl.dY).2.1.length ∧ x'.2.1.length = x'.1 ∧ p ≤ x'.2.2.2 ∧ x'.2.2.2 ≤
 p + (100 : Int) * (↑x.1 : Int) + (3 : Int) + (30 : Int) * ((3 : Int) - x_2.1) +
 (2 : Int) * (↑x'.1 : Int)) ∧ (List.getD s x.1 Pl.dY).2.1.length - x'.1 < (List.getD s x.1 Pl.dY).2.1.length - x_4.1 ∧ ((0 : Nat) = (0 : Nat) ∧ (0 : Nat) = (0 : Nat) ∧ (0 : Nat) = (0 : Nat) ∧ ((0 : Nat) = (0 : Nat) ∧ List.length x_2.2.1 = List.length x_2.2.1) ∧ (↑x.1 : Int) = (↑x.1 : Int) ∧ x_2.1 = x_2.1 ∧ (0 : Nat) = (0 : Nat) ∧ IntKind.i64.wrap ((↑x_4.1 : Int) + (1 : Int)) = (↑x'.1 : Int) ∧ True) ∧ (Is (byts x_5.1) (byts b) ∧ y.2 = x'.2.2.2 ∧ True) ∧ (Is (syms s) (syms s) ∧ True) ∧ (Is (AV.lit (0 : Nat) (1 : Nat) fun (x x_6 : Nat) => AV.any) nilA ∧ True) ∧ IsO (xrR x_2.2.1) (xrR x_2.2.1) ∧ ((List.getD s x.1 Pl.dY).1 = (List.getD s x.1 Pl.dY).1 ∧ ((0 : Nat) = (0 : Nat) ∧ x_4.2.1.length + (1 : Nat) = x'.2.1.length) ∧ x_4.2.2.1.1 = x'.2.2.1.1 ∧ x_4.2.2.1.2 = x'.2.2.1.2 ∧ True) ∧ IsO
 (AObj.arr (x_4.2.1.length + (1 : Nat)) (2 : Nat)
 (joinC x_4.2.1.length (cQ x_4.2.1)
 (rowsCell [[i64 y.1.1, i64 y.1.2]])))
 (arQ x'.2.1) ∧ True) ∧ ∃ x_5 : List Int × Int × Int,
 Rd (549755813888 : Int) x_5.1 x_5.2.1 ∧ (((0 : Nat) = (0 : Nat) ∧ (List.getD s x.1 Pl.dY).2.1.getD x_4.1 (0 : Int) = x_5.2.2 ∧ True) ∧ (Is (byts b) (byts x_5.1) ∧ x_4.2.2.2 = x_5.2.1 ∧ True) ∧ True) ∧ ∀ (y : Pl.Rt × Int),
 x_5.2.1 ≤ y.2 ∧ y.2 ≤ x_5.2.1 + (2 : Int) →
 (0 : Nat) + x_4.2.1.length ≤ x_4.2.1.length ∧ (x_4.2.1.length + (1 : Nat)) * (16 : Nat) ≤ (70368744177664 : Nat) ∧ Exists fun (x' : Nat × List Pl.Rt × Pl.Rt × Int) =>
 (x'.1 ≤ (List.getD s x.1 Pl.dY).2.1.length ∧ x'.2.1.length = x'.1 ∧ p ≤ x'.2.2.2 ∧ x'.2.2.2 ≤
 p + (100 : Int) * (↑x.1 : Int) + (3 : Int) + (30 : Int) * ((3 : Int) - x_2.1) +
 (2 : Int) * (↑x'.1 : Int)) ∧ (List.getD s x.1 Pl.dY).2.1.length - x'.1 < (List.getD s x.1 Pl.dY).2.1.length - x_4.1 ∧ ((0 : Nat) = (0 : Nat) ∧ (0 : Nat) = (0 : Nat) ∧ (0 : Nat) = (0 : Nat) ∧ ((0 : Nat) = (0 : Nat) ∧ List.length x_2.2.1 = List.length x_2.2.1) ∧ (↑x.1 : Int) = (↑x.1 : Int) ∧ x_2.1 = x_2.1 ∧ (0 : Nat) = (0 : Nat) ∧ IntKind.i64.wrap ((↑x_4.1 : Int) + (1 : Int)) = (↑x'.1 : Int) ∧ True) ∧ (Is (byts x_5.1) (byts b) ∧ y.2 = x'.2.2.2 ∧ True) ∧ (Is (syms s) (syms s) ∧ True) ∧ (Is (AV.lit (0 : Nat) (1 : Nat) fun (x x_6 : Nat) => AV.any) nilA ∧ True) ∧ IsO (xrR x_2.2.1) (xrR x_2.2.1) ∧ ((List.getD s x.1 Pl.dY).1 = (List.getD s x.1 Pl.dY).1 ∧ ((0 : Nat) = (0 : Nat) ∧ x_4.2.1.length + (1 : Nat) = x'.2.1.length) ∧ x_4.2.2.1.1 = x'.2.2.1.1 ∧ x_4.2.2.1.2 = x'.2.2.1.2 ∧ True) ∧ IsO
 (AObj.arr (x_4.2.1.length + (1 : Nat)) (2 : Nat)
 (joinC x_4.2.1.length (cQ x_4.2.1)
 (rowsCell [[i64 y.1.1, i64 y.1.2]])))
 (arQ x'.2.1) ∧ True)
 (∃ x_5 : List Pl.Rw × Pl.Rw,
 (x_5.1.length ≤ (1000 : Nat) ∧ (∀ (y : Pl.Rw), y ∈ x_5.1 → y.2.1.length ≤ (1000 : Nat)) ∧ x_5.2.2.1.length ≤ (1000 : Nat)) ∧ ((((0 : Nat) = (0 : Nat) ∧ List.length x_2.2.1 = x_5.1.length) ∧ ((List.getD s x.1 Pl.dY).1 = x_5.2.1 ∧ ((0 : Nat) = (0 : Nat) ∧ x_4.2.1.length = x_5.2.2.1.length) ∧ x_4.2.2.1.1 = x_5.2.2.2.1 ∧ x_4.2.2.1.2 = x_5.2.2.2.2 ∧ True) ∧ True) ∧ IsO (xrR x_2.2.1) (xrR x_5.1) ∧ IsO (arQ x_4.2.1) (arQ x_5.2.2.1) ∧ True) ∧ ∀ (y : List Nat),
 HPut x_5.1.length y →
 Exists fun (x' : Int × Pl.Mdl × Int) =>
 ((0 : Int) ≤ x'.1 ∧ x'.1 ≤ (3 : Int) ∧ Pl.MdB ((3 : Nat) * x.1 + (3 : Nat) - x'.1.toNat) (2 : Nat) x'.2.1 ∧ p ≤ x'.2.2 ∧ x'.2.2 ≤ p + (100 : Int) * (↑x.1 : Int) + (1 : Int) + (30 : Int) * ((3 : Int) - x'.1)) ∧ x'.1.toNat < x_2.1.toNat ∧ ((0 : Nat) = (0 : Nat) ∧ (0 : Nat) = (0 : Nat) ∧ (0 : Nat) = (0 : Nat) ∧ ((0 : Nat) = (0 : Nat) ∧ y.length = List.length x'.2.1) ∧ (↑x.1 : Int) = (↑x.1 : Int) ∧ IntKind.i64.wrap (x_2.1 - (1 : Int)) = x'.1 ∧ True) ∧ (Is (byts b) (byts b) ∧ x_4.2.2.2 = x'.2.2 ∧ True) ∧ (Is (syms s) (syms s) ∧ True) ∧ (Is (AV.lit (0 : Nat) (1 : Nat) fun (x x_6 : Nat) => AV.any) nilA ∧ True) ∧ IsO (xrR (List.map (fun (i : Nat) => (x_5.1 ++ [x_5.2]).getD i Pl.dR) y)) (xrR x'.2.1) ∧ True)) ∧ ∃ x_3 : List Int × Int × Int,
 Rd (549755813888 : Int) x_3.1 x_3.2.1 ∧ (((0 : Nat) = (0 : Nat) ∧ (List.getD s x.1 Pl.dY).2.2 = x_3.2.2 ∧ True) ∧ (Is (byts b) (byts x_3.1) ∧ x_2.2.2 = x_3.2.1 ∧ True) ∧ True) ∧ ∀ (y : Pl.Rt × Int),
 x_3.2.1 ≤ y.2 ∧ y.2 ≤ x_3.2.1 + (2 : Int) →
 ((0 : Int) ≤ (↑x.1 : Int) ∧ (↑x.1 : Int) < (↑(List.length s) : Int)) ∧ x.1 < List.length s ∧ (∃ x_4 : Nat × List Pl.Rt × Pl.Rt × Int,
 (x_4.1 ≤ (List.getD s x.1 Pl.dY).2.1.length ∧ x_4.2.1.length = x_4.1 ∧ p ≤ x_4.2.2.2 ∧ x_4.2.2.2 ≤ p + (100 : Int) * (↑x.1 : Int) + (3 : Int) + (30 : Int) * ((3 : Int) - x_2.1) + (2 : Int) * (↑x_4.1 : Int)) ∧ ((0 : Nat) = (0 : Nat) ∧ (0 : Nat) = (0 : Nat) ∧ (0 : Nat) = (0 : Nat) ∧ ((0 : Nat) = (0 : Nat) ∧ List.length x_2.2.1 = List.length x_2.2.1) ∧ (↑x.1 : Int) = (↑x.1 : Int) ∧ x_2.1 = x_2.1 ∧ (0 : Nat) = (0 : Nat) ∧ (0 : Int) = (↑x_4.1 : Int) ∧ True) ∧ (Is (byts x_3.1) (byts b) ∧ y.2 = x_4.2.2.2 ∧ True) ∧ (Is (syms s) (syms s) ∧ True) ∧ (Is (AV.lit (0 : Nat) (1 : Nat) fun (x x_5 : Nat) => AV.any) nilA ∧ True) ∧ IsO (xrR x_2.2.1) (xrR x_2.2.1) ∧ ((List.getD s x.1 Pl.dY).1 = (List.getD s x.1 Pl.dY).1 ∧ ((0 : Nat) = (0 : Nat) ∧ (0 : Nat) = (0 : Nat) ∧ x_4.2.1.length = (0 : Nat)) ∧ y.1.1 = x_4.2.2.1.1 ∧ y.1.2 = x_4.2.2.1.2 ∧ True) ∧ x_4.2.1.length = (0 : Nat) ∧ True) ∧ ∀ (x_4 : Nat × List Pl.Rt × Pl.Rt × Int),
 x_4.1 ≤ (List.getD s x.1 Pl.dY).2.1.length ∧ x_4.2.1.length = x_4.1 ∧ p ≤ x_4.2.2.2 ∧ x_4.2.2.2 ≤ p + (100 : Int) * (↑x.1 : Int) + (3 : Int) + (30 : Int) * ((3 : Int) - x_2.1) + (2 : Int) * (↑x_4.1 : Int) →
 ((0 : Int) ≤ (↑x.1 : Int) ∧ (↑x.1 : Int) < (↑(List.length s) : Int)) ∧ x.1 < List.length s ∧ condP (decide ((↑x_4.1 : Int) < (↑(List.getD s x.1 Pl.dY).2.1.length : Int)))
 ((((0 : Int) ≤ (↑x.1 : Int) ∧ (↑x.1 : Int) < (↑(List.length s) : Int)) ∧ x.1 < List.length s ∧ ((0 : Int) ≤ (↑x_4.1 : Int) ∧ (↑x_4.1 : Int) < (↑(List.getD s x.1 Pl.dY).2.1.length : Int)) ∧ x_4.1 < (List.getD s x.1 Pl.dY).2.1.length ∧ ∃ x_5 : List Int × Int × Int,
 Rd (549755813888 : Int) x_5.1 x_5.2.1 ∧ (((0 : Nat) = (0 : Nat) ∧ (List.getD s x.1 Pl.dY).2.1.getD x_4.1 (0 : Int) = x_5.2.2 ∧ True) ∧ (Is (byts b) (byts x_5.1) ∧ x_4.2.2.2 = x_5.2.1 ∧ True) ∧ True) ∧ ∀ (y : Pl.Rt × Int),
 x_5.2.1 ≤ y.2 ∧ y.2 ≤ x_5.2.1 + (2 : Int) →
 (0 : Nat) + x_4.2.1.length ≤ x_4.2.1.length ∧ (x_4.2.1.length + (1 : Nat)) * (16 : Nat) ≤ (70368744177664 : Nat) ∧ Exists fun (x' : Nat × List Pl.Rt × Pl.Rt × Int) =>
 (x'.1 ≤ (List.getD s x.1 Pl.dY).2.1.length ∧ x'.2.1.length = x'.1 ∧ p ≤ x'.2.2.2 ∧ x'.2.2.2 ≤
 p + (100 : Int) * (↑x.1 : Int) + (3 : Int) + (30 : Int) * ((3 : Int) - x_2.1) +
 (2 : Int) * (↑x'.1 : Int)) ∧ (List.getD s x.1 Pl.dY).2.1.length - x'.1 < (List.getD s x.1 Pl.dY).2.1.length - x_4.1 ∧ ((0 : Nat) = (0 : Nat) ∧ (0 : Nat) = (0 : Nat) ∧ (0 : Nat) = (0 : Nat) ∧ ((0 : Nat) = (0 : Nat) ∧ List.length x_2.2.1 = List.length x_2.2.1) ∧ (↑x.1 : Int) = (↑x.1 : Int) ∧ x_2.1 = x_2.1 ∧ (0 : Nat) = (0 : Nat) ∧ IntKind.i64.wrap ((↑x_4.1 : Int) + (1 : Int)) = (↑x'.1 : Int) ∧ True) ∧ (Is (byts x_5.1) (byts b) ∧ y.2 = x'.2.2.2 ∧ True) ∧ (Is (syms s) (syms s) ∧ True) ∧ (Is (AV.lit (0 : Nat) (1 : Nat) fun (x x_6 : Nat) => AV.any) nilA ∧ True) ∧ IsO (xrR x_2.2.1) (xrR x_2.2.1) ∧ ((List.getD s x.1 Pl.dY).1 = (List.getD s x.1 Pl.dY).1 ∧ ((0 : Nat) = (0 : Nat) ∧ x_4.2.1.length + (1 : Nat) = x'.2.1.length) ∧ x_4.2.2.1.1 = x'.2.2.1.1 ∧ x_4.2.2.1.2 = x'.2.2.1.2 ∧ True) ∧ IsO
 (AObj.arr (x_4.2.1.length + (1 : Nat)) (2 : Nat)
 (joinC x_4.2.1.length (cQ x_4.2.1)
 (rowsCell [[i64 y.1.1, i64 y.1.2]])))
 (arQ x'.2.1) ∧ True) ∧ ((0 : Int) ≤ (↑x.1 : Int) ∧ (↑x.1 : Int) < (↑(List.length s) : Int)) ∧ x.1 < List.length s ∧ ((0 : Int) ≤ (↑x_4.1 : Int) ∧ (↑x_4.1 : Int) < (↑(List.getD s x.1 Pl.dY).2.1.length : Int)) ∧ x_4.1 < (List.getD s x.1 Pl.dY).2.1.length ∧ (∃ x_5 : List Int × Int × Int,
 Rd (549755813888 : Int) x_5.1 x_5.2.1 ∧ (((0 : Nat) = (0 : Nat) ∧ (List.getD s x.1 Pl.dY).2.1.getD x_4.1 (0 : Int) = x_5.2.2 ∧ True) ∧ (Is (byts b) (byts x_5.1) ∧ x_4.2.2.2 = x_5.2.1 ∧ True) ∧ True) ∧ ∀ (y : Pl.Rt × Int),
 x_5.2.1 ≤ y.2 ∧ y.2 ≤ x_5.2.1 + (2 : Int) →
 (0 : Nat) + x_4.2.1.length ≤ x_4.2.1.length ∧ (x_4.2.1.length + (1 : Nat)) * (16 : Nat) ≤ (70368744177664 : Nat) ∧ Exists fun (x' : Nat × List Pl.Rt × Pl.Rt × Int) =>
 (x'.1 ≤ (List.getD s x.1 Pl.dY).2.1.length ∧ x'.2.1.length = x'.1 ∧ p ≤ x'.2.2.2 ∧ x'.2.2.2 ≤
 p + (100 : Int) * (↑x.1 : Int) + (3 : Int) + (30 : Int) * ((3 : Int) - x_2.1) +
 (2 : Int) * (↑x'.1 : Int)) ∧ (List.getD s x.1 Pl.dY).2.1.length - x'.1 < (List.getD s x.1 Pl.dY).2.1.length - x_4.1 ∧ ((0 : Nat) = (0 : Nat) ∧ (0 : Nat) = (0 : Nat) ∧ (0 : Nat) = (0 : Nat) ∧ ((0 : Nat) = (0 : Nat) ∧ List.length x_2.2.1 = List.length x_2.2.1) ∧ (↑x.1 : Int) = (↑x.1 : Int) ∧ x_2.1 = x_2.1 ∧ (0 : Nat) = (0 : Nat) ∧ IntKind.i64.wrap ((↑x_4.1 : Int) + (1 : Int)) = (↑x'.1 : Int) ∧ True) ∧ (Is (byts x_5.1) (byts b) ∧ y.2 = x'.2.2.2 ∧ True) ∧ (Is (syms s) (syms s) ∧ True) ∧ (Is (AV.lit (0 : Nat) (1 : Nat) fun (x x_6 : Nat) => AV.any) nilA ∧ True) ∧ IsO (xrR x_2.2.1) (xrR x_2.2.1) ∧ ((List.getD s x.1 Pl.dY).1 = (List.getD s x.1 Pl.dY).1 ∧ ((0 : Nat) = (0 : Nat) ∧ x_4.2.1.length + (1 : Nat) = x'.2.1.length) ∧ x_4.2.2.1.1 = x'.2.2.1.1 ∧ x_4.2.2.1.2 = x'.2.2.1.2 ∧ True) ∧ IsO
 (AObj.arr (x_4.2.1.length + (1 : Nat)) (2 : Nat)
 (joinC x_4.2.1.length (cQ x_4.2.1)
 (rowsCell [[i64 y.1.1, i64 y.1.2]])))
 (arQ x'.2.1) ∧ True) ∧ ∃ x_5 : List Int × Int × Int,
 Rd (549755813888 : Int) x_5.1 x_5.2.1 ∧ (((0 : Nat) = (0 : Nat) ∧ (List.getD s x.1 Pl.dY).2.1.getD x_4.1 (0 : Int) = x_5.2.2 ∧ True) ∧ (Is (byts b) (byts x_5.1) ∧ x_4.2.2.2 = x_5.2.1 ∧ True) ∧ True) ∧ ∀ (y : Pl.Rt × Int),
 x_5.2.1 ≤ y.2 ∧ y.2 ≤ x_5.2.1 + (2 : Int) →
 (0 : Nat) + x_4.2.1.length ≤ x_4.2.1.length ∧ (x_4.2.1.length + (1 : Nat)) * (16 : Nat) ≤ (70368744177664 : Nat) ∧ Exists fun (x' : Nat × List Pl.Rt × Pl.Rt × Int) =>
 (x'.1 ≤ (List.getD s x.1 Pl.dY).2.1.length ∧ x'.2.1.length = x'.1 ∧ p ≤ x'.2.2.2 ∧ x'.2.2.2 ≤
 p + (100 : Int) * (↑x.1 : Int) + (3 : Int) + (30 : Int) * ((3 : Int) - x_2.1) +
 (2 : Int) * (↑x'.1 : Int)) ∧ (List.getD s x.1 Pl.dY).2.1.length - x'.1 < (List.getD s x.1 Pl.dY).2.1.length - x_4.1 ∧ ((0 : Nat) = (0 : Nat) ∧ (0 : Nat) = (0 : Nat) ∧ (0 : Nat) = (0 : Nat) ∧ ((0 : Nat) = (0 : Nat) ∧ List.length x_2.2.1 = List.length x_2.2.1) ∧ (↑x.1 : Int) = (↑x.1 : Int) ∧ x_2.1 = x_2.1 ∧ (0 : Nat) = (0 : Nat) ∧ IntKind.i64.wrap ((↑x_4.1 : Int) + (1 : Int)) = (↑x'.1 : Int) ∧ True) ∧ (Is (byts x_5.1) (byts b) ∧ y.2 = x'.2.2.2 ∧ True) ∧ (Is (syms s) (syms s) ∧ True) ∧ (Is (AV.lit (0 : Nat) (1 : Nat) fun (x x_6 : Nat) => AV.any) nilA ∧ True) ∧ IsO (xrR x_2.2.1) (xrR x_2.2.1) ∧ ((List.getD s x.1 Pl.dY).1 = (List.getD s x.1 Pl.dY).1 ∧ ((0 : Nat) = (0 : Nat) ∧ x_4.2.1.length + (1 : Nat) = x'.2.1.length) ∧ x_4.2.2.1.1 = x'.2.2.1.1 ∧ x_4.2.2.1.2 = x'.2.2.1.2 ∧ True) ∧ IsO
 (AObj.arr (x_4.2.1.length + (1 : Nat)) (2 : Nat)
 (joinC x_4.2.1.length (cQ x_4.2.1)
 (rowsCell [[i64 y.1.1, i64 y.1.2]])))
 (arQ x'.2.1) ∧ True)
 (∃ x_5 : List Pl.Rw × Pl.Rw,
 (x_5.1.length ≤ (1000 : Nat) ∧ (∀ (y : Pl.Rw), y ∈ x_5.1 → y.2.1.length ≤ (1000 : Nat)) ∧ x_5.2.2.1.length ≤ (1000 : Nat)) ∧ ((((0 : Nat) = (0 : Nat) ∧ List.length x_2.2.1 = x_5.1.length) ∧ ((List.getD s x.1 Pl.dY).1 = x_5.2.1 ∧ ((0 : Nat) = (0 : Nat) ∧ x_4.2.1.length = x_5.2.2.1.length) ∧ x_4.2.2.1.1 = x_5.2.2.2.1 ∧ x_4.2.2.1.2 = x_5.2.2.2.2 ∧ True) ∧ True) ∧ IsO (xrR x_2.2.1) (xrR x_5.1) ∧ IsO (arQ x_4.2.1) (arQ x_5.2.2.1) ∧ True) ∧ ∀ (y : List Nat),
 HPut x_5.1.length y →
 Exists fun (x' : Int × Pl.Mdl × Int) =>
 ((0 : Int) ≤ x'.1 ∧ x'.1 ≤ (3 : Int) ∧ Pl.MdB ((3 : Nat) * x.1 + (3 : Nat) - x'.1.toNat) (2 : Nat) x'.2.1 ∧ p ≤ x'.2.2 ∧ x'.2.2 ≤ p + (100 : Int) * (↑x.1 : Int) + (1 : Int) + (30 : Int) * ((3 : Int) - x'.1)) ∧ x'.1.toNat < x_2.1.toNat ∧ ((0 : Nat) = (0 : Nat) ∧ (0 : Nat) = (0 : Nat) ∧ (0 : Nat) = (0 : Nat) ∧ ((0 : Nat) = (0 : Nat) ∧ y.length = List.length x'.2.1) ∧ (↑x.1 : Int) = (↑x.1 : Int) ∧ IntKind.i64.wrap (x_2.1 - (1 : Int)) = x'.1 ∧ True) ∧ (Is (byts b) (byts b) ∧ x_4.2.2.2 = x'.2.2 ∧ True) ∧ (Is (syms s) (syms s) ∧ True) ∧ (Is (AV.lit (0 : Nat) (1 : Nat) fun (x x_6 : Nat) => AV.any) nilA ∧ True) ∧ IsO (xrR (List.map (fun (i : Nat) => (x_5.1 ++ [x_5.2]).getD i Pl.dR) y)) (xrR x'.2.1) ∧ True))
 (Exists fun (x' : Nat × Pl.Mdl × Int) =>
 (x'.1 ≤ List.length s ∧ Pl.MdB ((3 : Nat) * x'.1) (2 : Nat) x'.2.1 ∧ p ≤ x'.2.2 ∧ x'.2.2 ≤ p + (100 : Int) * (↑x'.1 : Int)) ∧ List.length s - x'.1 < List.length s - x.1 ∧ ((0 : Nat) = (0 : Nat) ∧ (0 : Nat) = (0 : Nat) ∧ (0 : Nat) = (0 : Nat) ∧ ((0 : Nat) = (0 : Nat) ∧ List.length x_2.2.1 = List.length x'.2.1) ∧ IntKind.i64.wrap ((↑x.1 : Int) + (1 : Int)) = (↑x'.1 : Int) ∧ True) ∧ (Is (byts b) (byts b) ∧ x_2.2.2 = x'.2.2 ∧ True) ∧ (Is (syms s) (syms s) ∧ True) ∧ (Is (AV.lit (0 : Nat) (1 : Nat) fun (x x_3 : Nat) => AV.any) nilA ∧ True) ∧ IsO (xrR x_2.2.1) (xrR x'.2.1) ∧ True))
 (∃ y : Pl.Mdl × Int,
 (Pl.MdB (15 : Nat) (2 : Nat) y.1 ∧ p ≤ y.2 ∧ y.2 ≤ p + (1000 : Int)) ∧ (0 : Nat) + List.length x.2.1 ≤ List.length x.2.1 ∧ ((Is (mrows x.2.1) (mrows y.1) ∧ True) ∧ True) ∧ (Is (byts b) (byts b) ∧ x.2.2 = y.2 ∧ True) ∧ True)) = Goal Tryz.prog [K_num, K_l7Value, K_l7PutX] (A_l7Any b p s) K_l7AnyF.1 K_l7AnyF.2 ((b, p, s)) := by kernel_rfl
end Cg

/-
  The codes' contracts: drawn models, the rest, and the law that models are compared exactly. No condition.
-/
set_option linter.unusedVariables false
set_option linter.unusedSimpArgs false
set_option maxRecDepth 100000
namespace Cg
open Go Go.Proofs Pl
theorem md_sm {n k : Nat} {m : Mdl} (h : MdB n k m) (hn : n ≤ 100 := by decide) (hk : k ≤ 100 := by decide) : costM m ≤ 1048576 := by
  have : sumN costR m ≤ m.length * 110 := sumN_le fun x hx => by have := h.2 x hx; unfold costR; omega
  have h1 := h.1
  have : m.length * 110 ≤ 100 * 110 := Nat.mul_le_mul_right _ (by omega)
  unfold costM; omega
theorem k_l7Any : SoundC Tryz.prog K_l7Any.1 K_l7Any.2 := sound_of hm (((CtxOK.nil.and k_l7PutX).and k_l7Value).and k_num) (fun (b, p, s) => A_l7Any b p s) (by kernel_rfl) fun ((b, p, s) : List Int × Int × Pl.Sig) hb => (by
  obtain ⟨h1, h2⟩ : Rd 137438953472 b p ∧ SgB 5 2 s := hb
  rw [← vc_l7Any b p s]
  simp [-List.getD_eq_getElem?_getD, -List.mem_cons, -Bool.forall_bool, -Bool.exists_bool, and_assoc, peta, tl_inj, ex_1, ex_2, ex_3, ex_4, ex_5, ex_6, ex_7, ex_8, ex_9, ey_2, ey_3, ey_4, ey_5, ey_6, ey_7, ey_8, ey_9]
  obtain ⟨s1, s2⟩ : s.length ≤ 5 ∧ ∀ x ∈ s, x.1.size ≤ 10 ∧ x.2.1.length ≤ 2 := id h2
  have g3 := h1.2.2.1
  have g4 := h1.2.2.2
  refine ⟨⟨0, by omega, [], ⟨Nat.zero_le _, fun x hx => by cases hx⟩, by omega, rfl, rfl, rfl⟩, fun i m q hi hm q1 q2 => ⟨fun hlt => ⟨h1.to (by omega) (by omega), fun y hy => ⟨?_, fun k m q hk1 hk2 hm q3 q4 => ⟨fun hk => ?_, fun hk => ?_⟩⟩⟩, fun hge => ?_⟩⟩
  · simp at hy
    exact ⟨y, by omega, by omega, m, hm.mono (by omega) (Nat.le_refl _), by omega, by omega, rfl, rfl, xrR_self⟩
  · have hN := s2 _ (getD_mem dY hlt)
    have hr1 : Rd 549755813888 b q := h1.to (by omega) (by omega)
    have init : ∀ b3 : Int, q ≤ b3 → b3 ≤ q + 2 → ∃ a_18, a_18 ≤ (s.getD i dY).snd.fst.length ∧ ∃ a_19 : List Rt, a_19.length = a_18 ∧ p ≤ b3 ∧ b3 ≤ p + 100 * (i : Int) + 3 + 30 * (3 - k) + 2 * (a_18 : Int) ∧ (0 : Int) = a_18 ∧ a_19 = [] := fun b3 e1 e2 =>
      ⟨0, by omega, [], rfl, by omega, by omega, rfl, rfl⟩
    have stp : ∀ (j : Nat) (al : List Rt) (u : Int), al.length = j → p ≤ u → u ≤ p + 100 * (i : Int) + 3 + 30 * (3 - k) + 2 * (j : Int) → j < (s.getD i dY).snd.fst.length → ∀ (v w u' : Int), u ≤ u' → u' ≤ u + 2 → (al.length + 1) * 16 ≤ 70368744177664 ∧
        ∃ a_29, a_29 ≤ (s.getD i dY).snd.fst.length ∧ ∃ a_30, a_30.length = a_29 ∧ p ≤ u' ∧ u' ≤ p + 100 * (i : Int) + 3 + 30 * (3 - k) + 2 * (a_29 : Int) ∧ (s.getD i dY).snd.fst.length - a_29 < (s.getD i dY).snd.fst.length - j ∧ IntKind.i64.wrap ((j : Int) + 1) = (a_29 : Int) ∧ al.length + 1 = a_30.length ∧
        IsO (AObj.arr (al.length + 1) 2 (joinC al.length (cQ al) (rowsCell [[i64 v, i64 w]]))) (arQ a_30) := fun j al u e1 e2 e3 e4 v w u' e5 e6 =>
      ⟨by omega, j + 1, by omega, al ++ [(v, w)], by simp; omega, by omega, by omega, by omega, wrap_succ e4 (by omega), by simp, IsO_join EncN.eQ (IsR_row EncN.eQ fun j hj => by
        match j, hj with
        | 0, _ => exact Is_i64.2 rfl
        | 1, _ => exact Is_i64.2 rfl)⟩
    have ext : ∀ (j : Nat) (al : List Rt) (v w u : Int), j ≤ (s.getD i dY).snd.fst.length → al.length = j → p ≤ u → u ≤ p + 100 * (i : Int) + 3 + 30 * (3 - k) + 2 * (j : Int) →
        ∃ a_26 : List Rw, a_26.length ≤ 1000 ∧ (∀ (a : ByteArray) (a_27 : List Rt) (a_28 b : Int), (a, a_27, a_28, b) ∈ a_26 → a_27.length ≤ 1000) ∧ ∃ (a_27 : ByteArray) (a_28 : List Rt), a_28.length ≤ 1000 ∧ m.length = a_26.length ∧ (s.getD i dY).fst = a_27 ∧ al.length = a_28.length ∧ IsO (xrR m) (xrR a_26) ∧ (a_28 = [] ∨ al = a_28) ∧
          ∀ y : List Nat, HPut a_26.length y → ∃ a_30 : Int, 0 ≤ a_30 ∧ a_30 ≤ 3 ∧ ∃ a_31 : Mdl, MdB (3 * i + 3 - a_30.toNat) 2 a_31 ∧ p ≤ u ∧ u ≤ p + 100 * (i : Int) + 1 + 30 * (3 - a_30) ∧ max a_30 0 < k ∧ y.length = a_31.length ∧ IntKind.i64.wrap (k - 1) = a_30 ∧
            IsO (xrR (List.map (fun i => (a_26 ++ [(a_27, a_28, v, w)]).getD i dR) y)) (xrR a_31) := fun j al v w u e1 e2 e3 e4 => by
      obtain ⟨m1, m2⟩ : m.length ≤ 3 * i + 3 - k.toNat ∧ ∀ x ∈ m, x.1.size ≤ 10 ∧ x.2.1.length ≤ 2 := id hm
      refine ⟨m, by omega, fun a b c d h => by have := (m2 _ h).2; dsimp only at this; omega, (s.getD i dY).fst, al, by omega, rfl, rfl, rfl, xrR_self, .inr rfl, fun y hy => ?_⟩
      obtain ⟨y1, y2, y3⟩ := hy
      refine ⟨k - 1, by omega, by omega, List.map (fun i' => (m ++ [((s.getD i dY).fst, al, v, w)]).getD i' dR) y, ⟨by simp; omega, fun x hx => ?_⟩, by omega, by omega, by omega, by simp, wrap_small (by omega) (by omega), xrR_self⟩
      obtain ⟨n, hn, rfl⟩ := List.mem_map.1 hx
      have hn' := y3 n hn
      have : (m ++ [((s.getD i dY).fst, al, v, w)]).getD n dR ∈ m ++ [((s.getD i dY).fst, al, v, w)] := getD_mem dR (by simp; omega)
      rcases List.mem_append.1 this with e | e
      · exact m2 _ e
      · rw [List.mem_singleton.1 e]; exact ⟨hN.1, by dsimp only; omega⟩
    repeat' first
      | exact hlt
      | exact hr1
      | apply And.intro
    all_goals
      intro b3 h3 h4
      repeat' first
        | exact hlt
        | exact init b3 h3 h4
        | apply And.intro
    all_goals
      intro j al v w u e1 e2 e3 e4
      repeat' first
        | exact hlt
        | exact fun e5 => ext j al v w u e1 e2 e3 e4
        | apply And.intro
    all_goals
      intro e5
      repeat' first
        | exact hlt
        | exact e5
        | exact h1.to (by omega) (by omega)
        | exact fun v w u' => stp j al u e2 e3 e4 e5 v w u'
        | apply And.intro
  · obtain rfl : k = 0 := by omega
    exact ⟨i + 1, by omega, m, hm.mono (by simp; omega) (Nat.le_refl _), by omega, by omega, by omega, rfl, wrap_succ hlt (by omega), xrR_self⟩
  · exact ⟨m, hm.mono (by omega) (Nat.le_refl _), by omega, by omega, rfl, xrR_self⟩)
theorem k_l7AnyF : SoundC Tryz.prog K_l7AnyF.1 K_l7AnyF.2 := sound_of hm (((CtxOK.nil.and k_l7PutX).and k_l7Value).and k_num) (fun (b, p, s) => A_l7Any b p s) (by kernel_rfl) fun ((b, p, s) : List Int × Int × Pl.Sig) hb => (by
  obtain ⟨h1, h2⟩ : Rd 137438953472 b p ∧ SgB 5 2 s := hb
  rw [← vc_l7AnyF b p s]
  simp [-List.getD_eq_getElem?_getD, -List.mem_cons, -Bool.forall_bool, -Bool.exists_bool, and_assoc, peta, tl_inj, ex_1, ex_2, ex_3, ex_4, ex_5, ex_6, ex_7, ex_8, ex_9, ey_2, ey_3, ey_4, ey_5, ey_6, ey_7, ey_8, ey_9]
  obtain ⟨s1, s2⟩ : s.length ≤ 5 ∧ ∀ x ∈ s, x.1.size ≤ 10 ∧ x.2.1.length ≤ 2 := id h2
  have g3 := h1.2.2.1
  have g4 := h1.2.2.2
  refine ⟨⟨0, by omega, [], ⟨Nat.zero_le _, fun x hx => by cases hx⟩, by omega, rfl, rfl, rfl⟩, fun i m q hi hm q1 q2 => ⟨fun hlt => ⟨h1.to (by omega) (by omega), fun y hy => ⟨?_, fun k m q hk1 hk2 hm q3 q4 => ⟨fun hk => ?_, fun hk => ?_⟩⟩⟩, fun hge => ?_⟩⟩
  · simp at hy
    exact ⟨y, by omega, by omega, m, hm.mono (by omega) (Nat.le_refl _), by omega, by omega, rfl, rfl, xrR_self⟩
  · have hN := s2 _ (getD_mem dY hlt)
    have hr1 : Rd 549755813888 b q := h1.to (by omega) (by omega)
    have init : ∀ b3 : Int, q ≤ b3 → b3 ≤ q + 2 → ∃ a_18, a_18 ≤ (s.getD i dY).snd.fst.length ∧ ∃ a_19 : List Rt, a_19.length = a_18 ∧ p ≤ b3 ∧ b3 ≤ p + 100 * (i : Int) + 3 + 30 * (3 - k) + 2 * (a_18 : Int) ∧ (0 : Int) = a_18 ∧ a_19 = [] := fun b3 e1 e2 =>
      ⟨0, by omega, [], rfl, by omega, by omega, rfl, rfl⟩
    have stp : ∀ (j : Nat) (al : List Rt) (u : Int), al.length = j → p ≤ u → u ≤ p + 100 * (i : Int) + 3 + 30 * (3 - k) + 2 * (j : Int) → j < (s.getD i dY).snd.fst.length → ∀ (v w u' : Int), u ≤ u' → u' ≤ u + 2 → (al.length + 1) * 16 ≤ 70368744177664 ∧
        ∃ a_29, a_29 ≤ (s.getD i dY).snd.fst.length ∧ ∃ a_30, a_30.length = a_29 ∧ p ≤ u' ∧ u' ≤ p + 100 * (i : Int) + 3 + 30 * (3 - k) + 2 * (a_29 : Int) ∧ (s.getD i dY).snd.fst.length - a_29 < (s.getD i dY).snd.fst.length - j ∧ IntKind.i64.wrap ((j : Int) + 1) = (a_29 : Int) ∧ al.length + 1 = a_30.length ∧
        IsO (AObj.arr (al.length + 1) 2 (joinC al.length (cQ al) (rowsCell [[i64 v, i64 w]]))) (arQ a_30) := fun j al u e1 e2 e3 e4 v w u' e5 e6 =>
      ⟨by omega, j + 1, by omega, al ++ [(v, w)], by simp; omega, by omega, by omega, by omega, wrap_succ e4 (by omega), by simp, IsO_join EncN.eQ (IsR_row EncN.eQ fun j hj => by
        match j, hj with
        | 0, _ => exact Is_i64.2 rfl
        | 1, _ => exact Is_i64.2 rfl)⟩
    have ext : ∀ (j : Nat) (al : List Rt) (v w u : Int), j ≤ (s.getD i dY).snd.fst.length → al.length = j → p ≤ u → u ≤ p + 100 * (i : Int) + 3 + 30 * (3 - k) + 2 * (j : Int) →
        ∃ a_26 : List Rw, a_26.length ≤ 1000 ∧ (∀ (a : ByteArray) (a_27 : List Rt) (a_28 b : Int), (a, a_27, a_28, b) ∈ a_26 → a_27.length ≤ 1000) ∧ ∃ (a_27 : ByteArray) (a_28 : List Rt), a_28.length ≤ 1000 ∧ m.length = a_26.length ∧ (s.getD i dY).fst = a_27 ∧ al.length = a_28.length ∧ IsO (xrR m) (xrR a_26) ∧ (a_28 = [] ∨ al = a_28) ∧
          ∀ y : List Nat, HPut a_26.length y → ∃ a_30 : Int, 0 ≤ a_30 ∧ a_30 ≤ 3 ∧ ∃ a_31 : Mdl, MdB (3 * i + 3 - a_30.toNat) 2 a_31 ∧ p ≤ u ∧ u ≤ p + 100 * (i : Int) + 1 + 30 * (3 - a_30) ∧ max a_30 0 < k ∧ y.length = a_31.length ∧ IntKind.i64.wrap (k - 1) = a_30 ∧
            IsO (xrR (List.map (fun i => (a_26 ++ [(a_27, a_28, v, w)]).getD i dR) y)) (xrR a_31) := fun j al v w u e1 e2 e3 e4 => by
      obtain ⟨m1, m2⟩ : m.length ≤ 3 * i + 3 - k.toNat ∧ ∀ x ∈ m, x.1.size ≤ 10 ∧ x.2.1.length ≤ 2 := id hm
      refine ⟨m, by omega, fun a b c d h => by have := (m2 _ h).2; dsimp only at this; omega, (s.getD i dY).fst, al, by omega, rfl, rfl, rfl, xrR_self, .inr rfl, fun y hy => ?_⟩
      obtain ⟨y1, y2, y3⟩ := hy
      refine ⟨k - 1, by omega, by omega, List.map (fun i' => (m ++ [((s.getD i dY).fst, al, v, w)]).getD i' dR) y, ⟨by simp; omega, fun x hx => ?_⟩, by omega, by omega, by omega, by simp, wrap_small (by omega) (by omega), xrR_self⟩
      obtain ⟨n, hn, rfl⟩ := List.mem_map.1 hx
      have hn' := y3 n hn
      have : (m ++ [((s.getD i dY).fst, al, v, w)]).getD n dR ∈ m ++ [((s.getD i dY).fst, al, v, w)] := getD_mem dR (by simp; omega)
      rcases List.mem_append.1 this with e | e
      · exact m2 _ e
      · rw [List.mem_singleton.1 e]; exact ⟨hN.1, by dsimp only; omega⟩
    repeat' first
      | exact hlt
      | exact hr1
      | apply And.intro
    all_goals
      intro b3 h3 h4
      repeat' first
        | exact hlt
        | exact init b3 h3 h4
        | apply And.intro
    all_goals
      intro j al v w u e1 e2 e3 e4
      repeat' first
        | exact hlt
        | exact fun e5 => ext j al v w u e1 e2 e3 e4
        | apply And.intro
    all_goals
      intro e5
      repeat' first
        | exact hlt
        | exact e5
        | exact h1.to (by omega) (by omega)
        | exact fun v w u' => stp j al u e2 e3 e4 e5 v w u'
        | apply And.intro
  · obtain rfl : k = 0 := by omega
    exact ⟨i + 1, by omega, m, hm.mono (by simp; omega) (Nat.le_refl _), by omega, by omega, by omega, rfl, wrap_succ hlt (by omega), xrR_self⟩
  · exact ⟨hm.mono (by omega) (Nat.le_refl _), by omega, by omega⟩)
theorem k_l7Some : SoundC Tryz.prog K_l7Some.1 K_l7Some.2 := k_l7Some0 k_l7Any
theorem k_DrawModelOk : SoundC Tryz.prog K_DrawModelOk.1 K_DrawModelOk.2 := sound_of hm (((((CtxOK.nil.and k_l4Bent).and k_pick).and k_l7Some).and k_l4Sig).and k_l16Open) (fun _ => []) (by kernel_rfl) fun (b : List Int) hb => (by
  obtain ⟨h1, h2⟩ : Sz b ∧ Byt b := hb
  rw [← vc_DrawModelOk b]
  simp [-List.getD_eq_getElem?_getD, -List.mem_cons, -Bool.forall_bool, -Bool.exists_bool, and_assoc, peta, tl_inj, ex_1, ex_2, ex_3, ex_4, ex_5, ex_6, ex_7, ex_8, ex_9, ey_2, ey_3, ey_4, ey_5, ey_6, ey_7, ey_8, ey_9]
  exact ⟨by omega, h2, fun y hr => ⟨hr.to (by omega) (by omega), fun s hs => ⟨hr.to (by omega) (by omega), hs, fun m q hm q1 q2 => ⟨hr.to (by omega) (by omega), fun z _ _ => ⟨fun _ =>
    ⟨y, q + 1, hr.to (by omega) (by omega), s, 7, 2, hs.mono (by decide) (by decide), by decide, by decide, by decide, rfl, rfl, rfl, fun s2 q2' hs2 e1 e2 =>
      ⟨y, q2', hr.to (by omega) (by omega), s2, 8, 3, hs2, by decide, by decide, by decide, rfl, rfl, rfl, fun s3 q3 hs3 e3 e4 => ⟨hs3.mono (by decide) (by decide), hm⟩⟩⟩,
    fun _ => ⟨hs.mono (by decide) (by decide), hm⟩⟩⟩⟩⟩⟩)
end Cg

/-
  The codes' contracts: the law that models are read back as written. No condition.
-/
set_option linter.unusedVariables false
set_option linter.unusedSimpArgs false
set_option maxRecDepth 100000
namespace Cg
open Go Go.Proofs Pl
theorem mtx_size (m : Mdl) : (tx (mRight m) (modelB m)).size ≤ 5480 := by
  unfold tx
  split
  · rename_i h
    have := modelB_len h m.length
    rwa [List.take_length] at this
  · exact Nat.zero_le _
set_option maxHeartbeats 8000000 in
theorem g_DrawModelText (b : List Int) (h1 : Sz b) (h2 : Byt b) : GoalW Tryz.prog [K_DrawModelOk] ([]) K_DrawModelText.1 K_DrawModelText.2 (b) := GoalW.of (vc_DrawModelText b) (by
  simp (maxSteps := 2000000) [-List.getD_eq_getElem?_getD, -List.mem_cons, -Bool.forall_bool, -Bool.exists_bool, and_assoc, peta, tl_inj, ex_1, ex_2, ex_3, ex_4, ex_5, ex_6, ex_7, ex_8, ex_9, ey_2, ey_3, ey_4, ey_5, ey_6, ey_7, ey_8, ey_9]
  exact ⟨h1, h2⟩)
theorem k_DrawModelText : SoundC Tryz.prog K_DrawModelText.1 K_DrawModelText.2 := sound_ofW hm (CtxOK.nil.and k_DrawModelOk) (fun (b : List Int) => []) (by kernel_rfl) fun (b : List Int) hb => g_DrawModelText b hb.1 hb.2
set_option maxHeartbeats 8000000 in
theorem g_DrawModelRead (b : List Int) (h1 : Sz b) (h2 : Byt b) : GoalW Tryz.prog [K_l16Open, K_l4Sig, K_l7AnyF, K_sModelText, K_l2Torn] ([]) K_DrawModelRead.1 K_DrawModelRead.2 (b) := GoalW.of (vc_DrawModelRead b) (by
  simp (maxSteps := 2000000) [-List.getD_eq_getElem?_getD, -List.mem_cons, -Bool.forall_bool, -Bool.exists_bool, and_assoc, peta, tl_inj, ex_1, ex_2, ex_3, ex_4, ex_5, ex_6, ex_7, ex_8, ex_9, ey_2, ey_3, ey_4, ey_5, ey_6, ey_7, ey_8, ey_9]
  refine ⟨h1, h2, fun y hy => ⟨hy.to (by omega) (by omega), fun g hg => ⟨hy.to (by omega) (by omega), hg, fun m p hm p1 p2 => ⟨md_sm hm, hy.to (by omega) (by omega), ?_⟩⟩⟩⟩
  have := mtx_size m
  exact ⟨by omega, fun a ha => by omega⟩)
theorem k_DrawModelRead : SoundC Tryz.prog K_DrawModelRead.1 K_DrawModelRead.2 := sound_ofW hm (((((CtxOK.nil.and k_l2Torn).and k_sModelText).and k_l7AnyF).and k_l4Sig).and k_l16Open) (fun (b : List Int) => []) (by kernel_rfl) fun (b : List Int) hb => g_DrawModelRead b hb.1 hb.2
set_option maxHeartbeats 8000000 in
theorem g_yModelText (b c : List Int) (h1 : Byt b) (h2 : Byt c) : GoalW Tryz.prog [K_DrawModelText, K_iModelText, K_iModelRead, K_sModelText, K_iModelSame, K_DrawModelRead, K_sModelRead] ([]) K_yModelText.1 K_yModelText.2 ((b, c)) := GoalW.of (vc_yModelText b c) (by
  simp (maxSteps := 2000000) [-List.getD_eq_getElem?_getD, -List.mem_cons, -Bool.forall_bool, -Bool.exists_bool, and_assoc, peta, tl_inj, ex_1, ex_2, ex_3, ex_4, ex_5, ex_6, ex_7, ex_8, ex_9, ey_2, ey_3, ey_4, ey_5, ey_6, ey_7, ey_8, ey_9]
  intro l1 l2
  have hcost : ∀ t, costM (modelReadI t).1 ≤ 1048576 := fun t => by
    rw [modelReadI_eq]
    cases h : (rd mRight modelB [] (bl' t)).2 with
    | false => rw [rd_zero h]; decide
    | true => exact mRight_cost (rd_ok h).1
  have hsame : ∀ t, modelReadI t = modelReadS t := fun t => (modelReadI_eq t).trans (modelReadS_eq t).symm
  have tail : ∀ y : ByteArray, (modelReadI y).snd = true → tx (mRight (modelReadI y).fst) (modelB (modelReadI y).fst) = y := fun y h => by
    rw [modelReadI_eq] at h ⊢
    obtain ⟨q1, q2⟩ := rd_ok h
    rw [q1, tx_yes rfl, q2]; rfl
  have fin : c.length ≤ 4294967296 ∧ Byt c ∧ ∀ (y : ByteArray), y.size ≤ 100000 → y.size ≤ 1048576 ∧ ((modelReadI y).snd = (modelReadS y).snd → costM (modelReadI y).fst ≤ 1048576 ∧
      ((modelReadI y).fst = (modelReadS y).fst → (modelReadI y).snd = true → costM (modelReadI y).fst ≤ 1048576 ∧ tx (mRight (modelReadI y).fst) (modelB (modelReadI y).fst) = y) ∧ (modelReadI y).fst = (modelReadS y).fst) ∧ (modelReadI y).snd = (modelReadS y).snd :=
    ⟨by omega, h2, fun y hy => ⟨by omega, fun _ => ⟨hcost y, fun _ h => ⟨hcost y, tail y h⟩, by rw [hsame y]⟩, by rw [hsame y]⟩⟩
  refine ⟨by omega, h1, fun g hg => ⟨md_sm hg, by have := mtx_size g; omega, md_sm hg, fun hne => ?_, fun _ => fin⟩⟩
  have hok : mRight g = true := by
    cases h : mRight g with
    | true => rfl
    | false => exact absurd (by rw [h]; unfold tx; rw [if_neg (by simp), ByteArray.toList_eq]; rfl) hne
  have e : modelReadI (tx (mRight g) (modelB g)) = (g, true) := by
    rw [modelReadI_eq, hok, tx_yes rfl]
    exact rd_yes modelB_inj hok rfl
  rw [e]
  exact ⟨rfl, fun _ => ⟨md_sm hg, rfl, fun _ => fin⟩⟩)
theorem k_yModelText : SoundC Tryz.prog K_yModelText.1 K_yModelText.2 := sound_ofW hm (((((((CtxOK.nil.and k_sModelRead).and k_DrawModelRead).and k_iModelSame).and k_sModelText).and k_iModelRead).and k_iModelText).and k_DrawModelText) (fun ((b, c) : BbX) => []) (by kernel_rfl) fun ((b, c) : BbX) hb => g_yModelText b c hb.1 hb.2
end Cg

/-
  The listed tables and errors, and the shape of the world: what the row's condition gives the machine. No condition.
-/
set_option linter.unusedVariables false
namespace Go.Proofs.YtibghpfojnhfaaaGreatDoor
open Go
def laidL : List (String × DataW Unit) := [("math/bits.deBruijn32tab", Rows.laid_math_bits_deBruijn32tab), ("math/bits.deBruijn64tab", Rows.laid_math_bits_deBruijn64tab), ("internal/strconv.uint64pow10", Rows.laid_internal_strconv_uint64pow10), ("unicode/utf8.acceptRanges", Rows.laid_unicode_utf8_acceptRanges), ("strconv.ErrRange", Rows.laid_strconv_ErrRange), ("strconv.ErrSyntax", Rows.laid_strconv_ErrSyntax), ("unicode/utf8.first", Rows.laid_unicode_utf8_first)]
theorem door_met (os : Os) (args : Array Value) : laidMetH Tryz.prog laidL ((World.laidAll Tryz.prog os laidL).forCall (fun _ _ => 0) ⟨#[], args, []⟩).memory := by
  rw [MakeChecks.laidMetH_plain _ _ _ (by kernel_rfl)]
  exact laidMet_laidAll _ (by kernel_rfl) (by kernel_rfl)
theorem plain_laid {W : World} (h : laidMetH Tryz.prog laidL W) : laidMet Tryz.prog laidL W := by
  rw [MakeChecks.laidMetH_plain _ _ _ (by kernel_rfl)] at h
  exact h
theorem tab_laid {W : World} (h : laidMetH Tryz.prog laidL W) : Go.Lib.TabIs Tryz.prog W "internal/strconv.uint64pow10" .u64 Go.Lib.pow10Tab := by
  have h2 := laidMet.filter (fun x => x.1 == "internal/strconv.uint64pow10") (plain_laid h)
  have h3 : laidMet Tryz.prog (("internal/strconv.uint64pow10", Go.Lib.tabData .u64 Go.Lib.pow10Tab) :: []) W := by
    have e : (laidL.filter fun x => x.1 == "internal/strconv.uint64pow10") = ("internal/strconv.uint64pow10", Go.Lib.tabData .u64 Go.Lib.pow10Tab) :: [] := by rfl
    rw [e] at h2
    exact h2
  exact Go.Lib.tabIs_of_head (show Tryz.prog.globalNamed "internal/strconv.uint64pow10" = some 3 by kernel_rfl) (t := 193) (by kernel_rfl) Tryz.underlying193 Tryz.underlying175 (by kernel_rfl) (by kernel_rfl) h3
theorem star : "*" ++ "errors.errorString" = "*errors.errorString" := by decide
theorem rowES (u : TypeId) (h : Tryz.prog.typeName? 3 u = some "*errors.errorString") : u = 200 :=
  typeName_ptr_named (nm := "errors.errorString") (by rw [star]; kernel_rfl) (by kernel_rfl) (by decide) u (by rw [star]; exact h)
theorem err_var {W : World} (n : String) (g : Nat) (text : List UInt8) (h : laidMet Tryz.prog ((n, .iface "*errors.errorString" (.ptr (.agg [.lit (.string text)]))) :: []) W) (hg : Tryz.prog.globalNamed n = some g) (ht : (Tryz.prog.globals[g]?).map (·.type) = some 113) :
    ∃ c T fr, W.heap[g]? = some (.cells c T fr) ∧ ∃ ev, c[0]? = some ev ∧ (ev = .nilIface ∨ ∃ te pe, ev = .iface te pe) := by
  obtain ⟨a, s, h1, -, -, -⟩ := laid_sentinel h hg ht Tryz.underlying113 rowES Tryz.underlying200 Tryz.underlying202 rfl rfl Tryz.underlying9 (by kernel_rfl) (by kernel_rfl)
  unfold World.var? at h1
  rw [hg, Option.bind_some] at h1
  split at h1
  · rename_i c T fr hc
    have e := Option.some.inj h1
    subst e
    exact ⟨_, T, fr, hc, _, rfl, .inr ⟨_, _, rfl⟩⟩
  · cases h1
theorem gl_laid {W : World} (h : laidMetH Tryz.prog laidL W) (hsh : W.ShapedOpen Tryz.prog) : Cg.Gl (fun b => b < W.heap.size) W := fun g hg => by
  have lt : ∀ {g : Nat} {c : Array Value} {T : TypeId} {fr : Nat × Nat}, W.heap[g]? = some (.cells c T fr) → g < W.heap.size := fun h => (Array.getElem?_eq_some_iff.1 h).1
  unfold Cg.globs at hg
  rcases List.mem_cons.1 hg with rfl | hg
  · have ht := tab_laid h
    unfold Go.Lib.TabIs World.var? at ht
    rw [show Tryz.prog.globalNamed "internal/strconv.uint64pow10" = some 3 by kernel_rfl, Option.bind_some] at ht
    dsimp only
    split at ht
    · rename_i c T fr hc
      refine ⟨lt hc, c, T, fr, hc, ?_⟩
      rw [Option.some.inj ht]
      unfold Go.Lib.pow10Tab
      rw [List.map_map]
      rfl
    · cases ht
  rcases List.mem_cons.1 hg with rfl | hg
  · obtain ⟨m, hm⟩ := cell_of_shapedOpen_int (g := 0) (t := 3) (zero := #[.int .i64 0]) hsh (of_decide_eq_true (by kernel_rfl)) (by kernel_rfl) rfl (by kernel_rfl) (by kernel_rfl) Tryz.underlying3
    dsimp only
    unfold World.cell? at hm
    split at hm
    · rename_i c T fr hc
      refine ⟨lt hc, c, T, fr, hc, m, ?_⟩
      simpa using hm
    · cases hm
  rcases List.mem_cons.1 hg with rfl | hg
  · have h2 := laidMet.filter (fun x => x.1 == "strconv.ErrSyntax") (plain_laid h)
    have e : (laidL.filter fun x => x.1 == "strconv.ErrSyntax") = ("strconv.ErrSyntax", Rows.laid_strconv_ErrSyntax) :: [] := by rfl
    rw [e] at h2
    obtain ⟨c, T, fr, hc, h4⟩ := err_var "strconv.ErrSyntax" 1 _ h2 (by kernel_rfl) (by kernel_rfl)
    exact ⟨lt hc, c, T, fr, hc, h4⟩
  rcases List.mem_cons.1 hg with rfl | hg
  · have h2 := laidMet.filter (fun x => x.1 == "strconv.ErrRange") (plain_laid h)
    have e : (laidL.filter fun x => x.1 == "strconv.ErrRange") = ("strconv.ErrRange", Rows.laid_strconv_ErrRange) :: [] := by rfl
    rw [e] at h2
    obtain ⟨c, T, fr, hc, h4⟩ := err_var "strconv.ErrRange" 2 _ h2 (by kernel_rfl) (by kernel_rfl)
    exact ⟨lt hc, c, T, fr, hc, h4⟩
  · cases hg
/-- The wrap with a condition on the world, that hands on the world's shape. -/
theorem handed_and_shaped {H : Type} {enc : TypeId × Value → H} {a : Assume} {C : Checked} {os : Os} {f : FuncId} {fn : Func} {s : ChangeSpec} {conds : List PathCond} {apart fresh handsOn again : Bool} {X : World → Array Value → Prop}
    (hX : ∀ (w w' : World) (args : Array Value), w.heap = w'.heap → X w args → X w' args)
    (own : ownKnob C.prog.godebug = none) (started : os.Started) (noInit : C.prog.inits.idxOf? f = none) (hfn : C.prog.funcs[f]? = some fn)
    (witness : ∃ (w : World) (tape : Tape) (i : Input), w.os = os ∧ (w.forCall tape i).Shaped C.prog ∧ i.vars = [] ∧ Input.okWide C.prog (w.forCall tape i) .any w.heap.size f i ∧
      ((s.pre enc C.prog fn conds apart (w.forCall tape i).memory i.args ∧ X (w.forCall tape i).memory i.args) ∧ sizedMet enc C.prog fn (OpenSpec.ofChange s) apart (w.forCall tape i).memory i.args) ∧ a.holds C.prog (lone (Frame.enter C.prog f i.args .normal) [] (w.forCall tape i)))
    (contract : ∀ (W : World) (base : Nat) (args : Array Value) (ds gs : List (DataW H)) (before : List MemPlace),
      (∀ (j : Nat) t v, fn.params[j]? = some t → args[j]? = some v → Value.okWide C.prog W .any base t v) →
      DataW.Whole enc C.prog fn.params.toList s.vars apart W args.toList ds gs before →
      conds.all (PathCond.test C.prog ⟨fn.params.toList, ds, s.plain.varTypes C.prog, gs⟩) = true → X W args → W.ShapedOpen C.prog →
      Calls C.prog f args W fun e W' => ∃ v, e = .returned v ∧ s.post enc C.prog fn apart fresh handsOn again W args v W') :
    ReturnsInHanded a C os f .any (fun w args => (s.pre enc C.prog fn conds apart w args ∧ X w args) ∧ sizedMet enc C.prog fn (OpenSpec.ofChange s) apart w args) (s.post enc C.prog fn apart fresh handsOn again) := by
  refine returnsInHanded_of_calls own started noInit witness ?_
  intro w tape i _ hsh _ hok hpre hholds
  obtain ⟨_, _, _, fn', hfn', _, _, _, _, hval⟩ := hok
  have e : fn' = fn := Option.some.inj (hfn'.symm.trans hfn)
  subst e
  obtain ⟨⟨⟨ds, gs, before, hw, hc⟩, hx⟩, hz⟩ := hpre
  have hw' := DataW.Whole.of_heap (w' := w.forCall tape i) (by rfl) hw
  refine (contract (w.forCall tape i) w.heap.size i.args ds gs before hval hw' hc (hX _ _ _ (by rfl) hx) hsh).mono fun e W' ⟨v, he, hp⟩ => ?_
  subst he
  exact ChangeSpec.post_blind hp
end Go.Proofs.YtibghpfojnhfaaaGreatDoor
