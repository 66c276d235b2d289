/-
  What the law leans on, part 2. No condition.
-/
import Derived.WalkKit
import Derived.BigCall
import Derived.Test.YtogagckkbgndiaaProg
import Derived.StillTailTactics
import Derived.Test.YtogagckkbgndiaaFnExactLogTrimB1
/-
  The codes' contracts: rows of rows of numbers that a function owns, inner rows too. No condition.
-/
set_option linter.unusedVariables false
set_option linter.unusedSimpArgs false
set_option maxRecDepth 100000
namespace Cg
open Go Go.Proofs Go.RowKit Pl
theorem hok_nil {S : Nat → Prop} {w : World} (hin : ∀ b, S b → b < w.heap.size) (hgl : Gl S w) : HOK S mu0 w [] :=
  { obj := fun o x h => by simp at h, ids := fun o cs h => by simp at h, seps := fun o o' b _ h => by obtain ⟨x, h, _⟩ := h; simp at h, owns := fun o b h => by obtain ⟨x, h, _⟩ := h; simp at h, inS := hin, gl := hgl }
/-- What a call leaves that hands back a row of its own. -/
def NewRow (S : Nat → Prop) (c : List Int) (wr : World) (e : Ending) (W : World) : Prop :=
  ∃ a cap q, e = .returned (.slice a c.length cap) ∧ Ext wr W ∧ RelN S W q c.length 1 (fun i _ => i64 (c.getD i 0)) (.slice a c.length cap) ∧ ∀ u, q = some u → wr.heap.size ≤ u.b ∧ u.b < W.heap.size
theorem call_toIntS {S : Nat → Prop} {c : List Int} (hc : Sz c) {wr : World} {x : Value} (hin : ∀ b, S b → b < wr.heap.size) (hgl : Gl S wr) (hx : RelI S wr (ints c) x) :
    Calls Try.prog 9 #[x] wr (NewRow S c wr) :=
  ((k_toIntSO.2 c hc S mu0 wr [x] (hok_nil hin hgl) ⟨x, [], rfl, hx, rfl⟩)).mono fun e W ⟨v, _, S1, μ1, he, _, hev, hr⟩ => by
    have hx : Ext wr W := ⟨hev.kept.os, hev.kept.tape, hev.kept.output, hev.kept.size, fun b hb => hev.kept.block b hb fun ⟨o, x, h, _⟩ => by simp at h⟩
    obtain ⟨hesz, hob⟩ := hev.hok.obj 0 (arI c) rfl
    unfold Rel at hr
    cases hb : (μ1 0).b with
    | none =>
      rw [hb] at hr hob
      obtain ⟨_, hn, a, rfl⟩ := hr
      have hn : c.length = 0 := hn
      exact ⟨a, 0, none, by rw [he, hn], hx, ⟨hn, a, by rw [hn]⟩, fun u hu => by cases hu⟩
    | some b =>
      rw [hb] at hr hob
      obtain ⟨hcap, C, T, hh, hsz, hel⟩ := hob
      obtain ⟨_, a, rfl, ha⟩ := hr
      have own : Own μ1 [arI c] 0 b := ⟨arI c, rfl, hb⟩
      have hnew : wr.heap.size ≤ b := (hev.mine 0 b own).resolve_right fun ⟨o, x, h, _⟩ => by simp at h
      by_cases h0 : 0 < (μ1 0).cap
      · have ha := ha h0
        rw [Nat.zero_mul, Nat.add_zero] at ha
        subst ha
        refine ⟨_, (μ1 0).cap, some ⟨b, (μ1 0).base, (μ1 0).cap, c.length⟩, he, hx, ⟨rfl, hcap, rfl, C, T, hh, hsz, fun i hi j hj => ?_⟩, fun u hu => by cases hu; exact ⟨hnew, (hev.hok.owns 0 b own).2⟩⟩
        obtain ⟨y, h1, h2⟩ := hel i hi j hj
        exact ⟨y, h1, h2⟩
      · have hn : c.length = 0 := by have : c.length ≤ (μ1 0).cap := hcap; omega
        have hc0 : (μ1 0).cap - 0 = 0 := by omega
        exact ⟨some a, 0, none, by rw [he, hc0], hx, ⟨hn, some a, by rw [hn]⟩, fun u hu => by cases hu⟩
theorem Below.ext' {w w' : World} (h : Below w.heap.size w w') : Ext w w' := ⟨h.os, h.tape, h.output, h.size, h.block⟩
/-- The first rows are laid in a block, each in a block of its own. -/
def Laid (S : Nat → Prop) (l : List (List Int)) (w : World) (b0 k : Nat) (wr : World) : Prop := ∃ (iq : Nat → Option Inn) (C : Array Value),
  wr.heap[b0]? = some (.cells C 25 (0, 0)) ∧ C.size = l.length ∧
  (∀ i, i < k → ∃ x, C[i]? = some x ∧ RelN S wr (iq i) (l.getD i []).length 1 (fun j _ => i64 ((l.getD i []).getD j 0)) x) ∧
  (∀ i u, iq i = some u → i < k ∧ b0 < u.b ∧ u.b < wr.heap.size) ∧ (∀ i j u v, iq i = some u → iq j = some v → u.b = v.b → i = j)
theorem RelN_kept {S : Nat → Prop} {w w' : World} {q : Option Inn} {n : Nat} {c : List Int} {y : Value} (hw : ∀ u, q = some u → w'.heap[u.b]? = w.heap[u.b]?) (h : RelN S w q n 1 (fun j _ => i64 (c.getD j 0)) y) : RelN S w' q n 1 (fun j _ => i64 (c.getD j 0)) y := by
  cases q with
  | none => exact h
  | some u =>
    obtain ⟨h1, h2, h3, C, T, h4, h5, h6⟩ := h
    exact ⟨h1, h2, h3, C, T, by rw [hw u rfl]; exact h4, h5, h6⟩
theorem Laid.step {S : Nat → Prop} {l : List (List Int)} {w wr W : World} {b0 k : Nat} {vk : Value} {q : Option Inn} (h : Laid S l w b0 k wr) (hk : k < l.length) (hb0 : b0 < wr.heap.size) (hx : Ext wr W)
    (hq : RelN S W q (l.getD k []).length 1 (fun i _ => i64 ((l.getD k []).getD i 0)) vk) (hu : ∀ u, q = some u → wr.heap.size ≤ u.b ∧ u.b < W.heap.size) :
    Laid S l w b0 (k + 1) (W.setCell ⟨b0, k, none⟩ vk) := by
  obtain ⟨iq, C, h1, h2, h3, h4, h5⟩ := h
  have hW : W.heap[b0]? = some (.cells C 25 (0, 0)) := by rw [hx.block b0 hb0]; exact h1
  have hoth : ∀ b, b ≠ b0 → (W.setCell ⟨b0, k, none⟩ vk).heap[b]? = W.heap[b]? := fun b hb => by
    simp only [World.setCell, Array.getElem?_modify]
    rw [if_neg (fun e => hb e.symm)]
  refine ⟨fun i => if i = k then q else iq i, C.set! k vk, ?_, by simp [h2], fun i hi => ?_, fun i u hiu => ?_, fun i j u v hi hj e => ?_⟩
  · simp only [World.setCell, Array.getElem?_modify, hW]
    simp
  · dsimp only
    by_cases e : i = k
    · subst e
      refine ⟨vk, by rw [Array.set!_eq_setIfInBounds, Array.getElem?_setIfInBounds]; simp [h2, hk], ?_⟩
      rw [if_pos rfl]
      exact RelN_kept (fun u hq' => hoth _ (by have := (hu u hq').1; omega)) hq
    · rw [if_neg e]
      obtain ⟨x, e1, e2⟩ := h3 i (by omega)
      refine ⟨x, ?_, RelN_kept (fun u hq' => ?_) e2⟩
      · rw [← e1, Array.set!_eq_setIfInBounds, Array.getElem?_setIfInBounds, if_neg (Ne.symm e)]
      · have := h4 i u hq'
        rw [hoth _ (by omega), hx.block _ this.2.2]
  · have hsz : (W.setCell ⟨b0, k, none⟩ vk).heap.size = W.heap.size := by simp [World.setCell]
    rw [hsz]
    dsimp only at hiu
    split at hiu
    · have := hu u hiu; omega
    · have := h4 i u hiu
      have := hx.size
      omega
  · dsimp only at hi hj
    split at hi <;> split at hj
    · omega
    · have := hu u hi; have := h4 j v hj; omega
    · have := hu v hj; have := h4 i u hi; omega
    · exact h5 i j u v hi hj e
theorem z_row : (zeroCells Try.prog 25).isSome = true := by kernel_rfl
theorem c_row : Try.prog.cellsOf 25 = 1 := by kernel_rfl
theorem b_row : Try.prog.bytesOf 25 = 24 := by kernel_rfl
set_option maxHeartbeats 1000000 in
theorem w_toIntSS (l : List (List Int)) (h : SzL l) (S : Nat → Prop) (w : World) (v : Value) (hin : ∀ b, S b → b < w.heap.size) (hgl : Gl S w) (hr : RelI S w (intss l) v) :
    Calls Try.prog 26 #[v] w fun e w' => e = .returned (.slice (some ⟨w.heap.size, 0, none⟩) l.length l.length) ∧ Ext w w' ∧ Laid S l w w.heap.size l.length w' := by
  have hl : l.length ≤ 4294967296 := h.1
  obtain ⟨a, cap, rfl, hcap, hc⟩ := hr
  obtain ⟨zs, hzs⟩ := Option.isSome_iff_exists.1 z_row
  obtain ⟨i, z, hi, hz, hcz⟩ := zeroCells_some hzs
  have hisz : i.size = 1 := by have := c_row; unfold Program.cellsOf at this; rw [hi] at this; exact this
  have hib : i.bytes = 24 := by have := b_row; unfold Program.bytesOf at this; rw [hi] at this; exact this
  have hmk := run_make (P := Try.prog) w 22 25 i z Try.underlying22 hi hz .i64 .i64 l.length l.length (by omega) (Int.le_refl _) (by rw [hib]; omega) (by omega)
  rw [Int.toNat_natCast, hisz, Nat.mul_one] at hmk
  obtain ⟨M, hM⟩ : ∃ M, M = madeCells z.cells l.length := ⟨_, rfl⟩
  have hMs : M.size = l.length := by rw [hM]; exact size_madeCells _ _
  rw [← hM] at hmk
  clear hi hz hcz hM hzs
  go_enter Try.func26, Try.ntmps26
  go_wp2
  go_loopw [4] (fun v4 wr => ∃ k : Nat, v4 = .int .i64 (k : Int) ∧ k ≤ l.length ∧ Ext w wr ∧ Laid S l w w.heap.size k wr) (fun v4 wr => match v4 with | .int _ k => l.length - k.toNat | _ => 0)
  case atStart =>
    exact ⟨0, rfl, Nat.zero_le _, Below.ext' ((Below.refl _ w).alloc (Nat.le_refl _) _), fun _ => none, M, heap_alloc_new w _, hMs, fun i hi => by omega, fun i u hu => by simp at hu, fun i j u v hu => by simp at hu⟩
  case round =>
    obtain ⟨k, rfl, hk, hx, hL⟩ := hrel
    by_cases hp : k < l.length
    · obtain ⟨b, off, rfl, hb, c, T, fr, hh, hel⟩ := hc.resolve_left (by omega)
      obtain ⟨x, hx1, hx2⟩ := hel k hp 0 (by omega)
      have hcell : wr.cell? ⟨b, off + k, none⟩ = some x := by
        unfold World.cell?
        rw [hx.block b (hin b hb), hh]
        simpa using hx1
      have hx3 : RelI S wr (ints (l.getD k [])) x := RelI_mono (fun _ h => h) (fun b hs => hx.block b (hin b hs)) _ _ hx2
      have hcall := call_toIntS (h.2 _ (getD_mem [] hp)) (fun b hs => Nat.lt_of_lt_of_le (hin b hs) hx.size) (hgl.mono (fun _ h => h) fun b hs => hx.block b (hin b hs)) hx3
      have hw64 : wrap64 ((k : Int) + 1) = (k : Int) + 1 := (by unfold wrap64; omega)
      obtain ⟨c0, hc0⟩ : ∃ c0, c0 = l.getD k [] := ⟨_, rfl⟩
      rw [← hc0] at hcall
      clear hx2 hx3 hel hc hx1 hmk
      go_wp2_with (go_at_call 9; refine hcall.mono ?_)
      intro e W1 hN
      obtain ⟨a1, cap1, q, rfl, hx1, hq, hu⟩ := hN
      have hL' := hL
      obtain ⟨iq, C, e1, e2, -⟩ := hL'
      have hb0 : w.heap.size < wr.heap.size := (Array.getElem?_eq_some_iff.1 e1).1
      have e3 : W1.heap[w.heap.size]? = some (.cells C 25 (0, 0)) := by rw [hx1.block _ hb0]; exact e1
      have hcl : ∃ y0, W1.cell? ⟨w.heap.size, k, none⟩ = some y0 := by
        unfold World.cell?
        rw [e3]
        exact ⟨C[k]'(by omega), by simp⟩
      obtain ⟨y0, hcl⟩ := hcl
      have hfr : W1.frozen? ⟨w.heap.size, k, none⟩ = false := by
        unfold World.frozen?
        rw [e3]
        rfl
      rw [hc0] at hq
      have hstep := Laid.step hL hp hb0 hx1 hq hu
      have hxx : ∀ v, Ext w (W1.setCell ⟨w.heap.size, k, none⟩ v) := fun v => by
        have hx2 := hx.trans hx1
        refine ⟨hx2.os, hx2.tape, hx2.output, by simpa [World.setCell] using hx2.size, fun b hb => ?_⟩
        simp only [World.setCell, Array.getElem?_modify]
        rw [if_neg (by show ¬ w.heap.size = b; omega), hx2.block b hb]
      rw [← hc0] at hstep
      clear hL e1 e2 e3 hq hu hc0
      go_wp2
      go_roundw
      case rel =>
        exact ⟨k + 1, rfl, hp, hxx _, hstep⟩
      case measure =>
        show l.length - ((k : Int) + 1).toNat < l.length - (k : Int).toNat
        omega
    · have hkl : k = l.length := by omega
      subst hkl
      go_wp2
      go_ret
      exact ⟨rfl, hx, hL⟩
theorem k_toIntSSO : SoundC Try.prog K_toIntSSO.1 K_toIntSSO.2 := ⟨callable_of (by kernel_rfl), fun l hl S μ w vals hok hrel => by
  obtain ⟨v0, r0, rfl, ha, hc⟩ := hrel
  cases hc
  have ha : RelI S w (intss l) v0 := ha
  refine (w_toIntSS l hl S w v0 hok.inS hok.gl ha).mono fun e w' ⟨he, hx, hL⟩ => ?_
  obtain ⟨iq, C, h1, h2, h3, h4, h5⟩ := hL
  obtain ⟨μ', hμ⟩ : ∃ μ' : Nat → OI, μ' = fun o => ⟨some w.heap.size, 0, l.length, 1, fun i j => if j = 0 then iq i else none⟩ := ⟨_, rfl⟩
  have inn : ∀ {i j : Nat} {u : Inn}, (μ' 0).inn i j = some u → j = 0 ∧ iq i = some u := fun {i j u} h => by
    rw [hμ] at h
    dsimp only at h
    split at h
    · rename_i hj; exact ⟨hj, h⟩
    · cases h
  have hb : (μ' 0).b = some w.heap.size := by rw [hμ]
  have own : ∀ {o b : Nat}, Own μ' [AObj.xarr l.length 1 (cII l)] o b → o = 0 ∧ w.heap.size ≤ b ∧ b < w'.heap.size := fun {o b} ⟨x, hxo, hbb⟩ => by
    cases o with
    | succ o => simp at hxo
    | zero =>
      cases hxo
      refine ⟨rfl, ?_⟩
      rcases hbb with h | ⟨i, j, u, hu, rfl⟩
      · rw [hb] at h
        cases h
        exact ⟨Nat.le_refl _, (Array.getElem?_eq_some_iff.1 h1).1⟩
      · have := h4 i u (inn hu).2
        exact ⟨by omega, this.2.2⟩
  refine ⟨_, (), S, μ', he, trivial, { sub := fun _ h => h, new := fun _ h => .inl h, mu := fun o ho => absurd ho (Nat.not_lt_zero _), len := Nat.zero_le _, kept := ⟨hx.os, hx.tape, hx.output, hx.size, fun b hb _ => hx.block b hb⟩, mine := fun o b h => .inl (own h).2.1, hok := { obj := fun o x ho => ?_, ids := fun o cs ho => ?_, seps := fun o o' b hne h h' => hne ((own h).1.trans (own h').1.symm), owns := fun o b h => ⟨fun hs => ?_, (own h).2.2⟩, inS := fun b hb => Nat.lt_of_lt_of_le (hok.inS b hb) hx.size, gl := hok.gl.mono (fun _ h => h) fun b hs => hx.block b (hok.inS b hs) } }, ?_⟩
  · cases o with
    | succ o => simp at ho
    | zero =>
      cases ho
      refine ⟨by rw [hμ], fun i j u hu => ?_, ?_⟩
      · obtain ⟨rfl, hu2⟩ := inn hu
        have := h4 i u hu2
        refine ⟨fun e => ?_, this.1, by omega, fun i' j' u' hu' e => ?_⟩
        · rw [hb] at e
          have := Option.some.inj e
          omega
        · obtain ⟨rfl, hu3⟩ := inn hu'
          exact ⟨h5 i' i u' u hu3 hu2 e, rfl⟩
      · rw [hμ]
        refine ⟨Nat.le_refl _, C, _, h1, by dsimp only; omega, fun i hi j hj => ?_⟩
        obtain rfl : j = 0 := by omega
        obtain ⟨x, e1, e2⟩ := h3 i hi
        refine ⟨x, by dsimp only; rw [Nat.zero_add, Nat.mul_one, Nat.add_zero]; exact e1, ?_⟩
        show RelN S w' (if (0 : Nat) = 0 then iq i else none) _ _ _ x
        rw [if_pos rfl]
        exact e2
  · cases o with
    | succ o => simp at ho
    | zero => cases ho
  · have := hok.inS b hs
    have := (own h).2.1
    omega
  · unfold Rel
    rw [hb]
    refine ⟨by rw [hμ]; dsimp only; omega, ⟨w.heap.size, 0, none⟩, by rw [hμ]; rfl, fun _ => by rw [hμ]; rfl⟩⟩
end Cg

/-
  The codes' contracts: the law that units are exact. No condition.
-/
set_option linter.unusedVariables false
set_option linter.unusedSimpArgs false
set_option maxRecDepth 100000
namespace Cg
open Go Go.Proofs Pl
theorem szL_sum : ∀ (l : List (List Int)) (k : Int), 0 ≤ Pl.szL l k → (sumW l : Int) ≤ k
  | [], k, h => h
  | y :: l, k, h => by
    simp only [Pl.szL] at h
    split at h
    · omega
    · have := szL_sum l _ h
      simp only [sumW]; omega
theorem szSS_sum {l : List (List Int)} {k : Int} (h : 0 ≤ Pl.szSS l k) : (sumW l : Int) ≤ k := by
  unfold Pl.szSS at h
  split at h
  · exact absurd h (by decide)
  · have := szL_sum l _ h; omega
theorem intss_self {l : List (List Int)} : Is (AV.sl l.length 1 (cII l)) (intss l) := Enc.intss l l |>.2 rfl
set_option maxHeartbeats 8000000 in
theorem g_toCnfO (c : Pl.Cnf) (h1 : SzC c) : GoalW Try.prog [K_toIntSSO] ([]) K_toCnfO.1 K_toCnfO.2 (c) := GoalW.of (vc_toCnfO c) (by
  simp (maxSteps := 2000000) [-List.getD_eq_getElem?_getD, -List.mem_cons, -Bool.forall_bool, -Bool.exists_bool, and_assoc, peta, tl_inj, ex_1, ex_2, ex_3, ex_4, ex_5, ex_6, ex_7, ex_8, ex_9, ey_2, ey_3, ey_4, ey_5, ey_6, ey_7, ey_8, ey_9]
  exact ⟨h1.1, h1.2⟩)
theorem k_toCnfO : SoundC Try.prog K_toCnfO.1 K_toCnfO.2 := sound_ofW hm (CtxOK.nil.and k_toIntSSO) (fun (c : Pl.Cnf) => []) (by kernel_rfl) fun (c : Pl.Cnf) hb => g_toCnfO c hb
set_option maxHeartbeats 8000000 in
theorem g_markCnf (c : Pl.Cnf) (k : Int) (h1 : SzC c) (h2 : 0 ≤ k) (h3 : k + sumW c.2 ≤ 1099511627776) : GoalW Try.prog [K_markIntSS] ([]) K_markCnf.1 K_markCnf.2 ((c, k)) := GoalW.of (vc_markCnf c k) (by
  simp (maxSteps := 2000000) [-List.getD_eq_getElem?_getD, -List.mem_cons, -Bool.forall_bool, -Bool.exists_bool, and_assoc, peta, tl_inj, ex_1, ex_2, ex_3, ex_4, ex_5, ex_6, ex_7, ex_8, ex_9, ey_2, ey_3, ey_4, ey_5, ey_6, ey_7, ey_8, ey_9]
  exact ⟨c.2, h1.1, h1.2, h2, h3, rfl, xrII_self, rfl, xrII_self⟩)
theorem k_markCnf : SoundC Try.prog K_markCnf.1 K_markCnf.2 := sound_ofW hm (CtxOK.nil.and k_markIntSS) (fun ((c, k) : Pl.Cnf × Int) => []) (by kernel_rfl) fun ((c, k) : Pl.Cnf × Int) hb => g_markCnf c k hb.1 hb.2.1 hb.2.2
end Cg

/-
  What is left to show of each function's code, printed by a program: Xco. No condition.
-/
set_option maxRecDepth 100000
set_option linter.unusedVariables false
namespace Cg
open Go Go.Proofs
end Cg

/-
  The codes' contracts: rows of numbers that are marked, and the law that clauses made of lists are exact. No condition.
-/
set_option linter.unusedVariables false
set_option linter.unusedSimpArgs false
set_option maxRecDepth 100000
namespace Cg
open Go Go.Proofs

end Cg

/-
  The codes' contracts: the law that searches are exact. No condition.
-/
set_option linter.unusedVariables false
set_option linter.unusedSimpArgs false
set_option maxRecDepth 100000
namespace Cg
open Go Go.Proofs Pl
theorem xrII_push' {l : List (List Int)} {k : Nat} {v : List Int} {a : AV} (hk : k = l.length) (h : IsX a (ints v)) : IsO (.xarr (k + 1) 1 (joinC k (cII l) (rowsCell [[a]]))) (xrII (l ++ [v])) := by
  subst hk
  refine ⟨rfl, by simp, fun i hi j hj => ?_⟩
  have hj0 : j = 0 := by omega
  subst hj0
  by_cases h' : i < l.length
  · have e1 : (l ++ [v]).getD i [] = l.getD i [] := by simp only [List.getD_eq_getElem?_getD, List.getElem?_append_left h']
    show IsX (joinC l.length (cII l) (rowsCell [[a]]) i 0) (eII ((l ++ [v]).getD i []) 0)
    unfold joinC
    rw [blt_true h', e1]
    exact IsX_ints
  · have hi' : i = l.length := by omega
    subst hi'
    have e1 : (l ++ [v]).getD l.length [] = v := by simp
    show IsX (joinC l.length (cII l) (rowsCell [[a]]) l.length 0) (eII ((l ++ [v]).getD l.length []) 0)
    unfold joinC
    rw [blt_false h', e1, Nat.sub_self]
    exact h
/-- A callee that is handed what the caller owned, for good. -/
theorem SoundE.give {P : Program} {f : FuncId} {X : Type} {enc : X → List AV} {pre : X → Prop} {res : X → AV} (hs : ∀ x : X, pre x → PureAt P f (enc x) (res x)) (hm : ∀ x k, ment k (res x) = false)
    {X' : Type} (g : X' → X) (fr : X' → List AV) (Hs : X' → List AObj) (hv : ∀ x, ∃ q, viewL (view2 (Hs x)) (fr x) = (q, enc (g x)) ∧ ∀ p ∈ q, p) :
    SoundE P f X' (fun x => ⟨fr x, Hs x⟩) (fun x => pre (g x)) Unit (fun _ _ => True) fun x _ => (res (g x), (Hs x).map fun _ => .dead) := by
  intro x hp S μ w vals hok hrel
  obtain ⟨q, hq, hq'⟩ := hv x
  have hok : HOK S μ w (Hs x) := hok
  have hrel : RelL S μ w (fr x) vals := hrel
  have hva := view_args hok (by rw [hq]; exact hq') hrel
  rw [hq] at hva
  refine (hs (g x) hp (Lent S μ (Hs x)) w vals (lent_lt hok) (hok.gl.mono (fun _ h => .inl h) fun _ _ => rfl) hva).mono fun en w' he => ?_
  obtain ⟨y, S', rfl, h1, h2, h3, h4, h5⟩ := he
  have hdead : ∀ (o : Nat) (z : AObj), ((Hs x).map fun _ => AObj.dead)[o]? = some z → z = .dead := fun o z hz => by
    rw [List.getElem?_map] at hz
    cases hh : (Hs x)[o]? with
    | none => rw [hh] at hz; cases hz
    | some u => rw [hh] at hz; exact (Option.some.inj hz).symm
  have hno : ∀ o b, ¬ Own μ ((Hs x).map fun _ => AObj.dead) o b := fun o b ⟨z, hz, hb⟩ => by
    rw [hdead o z hz] at hb; exact hb
  refine ⟨y, (), S', μ, rfl, trivial, ?_, Rel_mono (fun _ h => h) (fun _ _ => rfl) _ _ (fun k hk => by rw [hm] at hk; cases hk) h5⟩
  exact {
    sub := fun b hb => h2 b (.inl hb)
    new := fun b hb => by
      rcases h3 b hb with (h | h) | h
      · exact .inl h
      · exact .inr (.inr h)
      · exact .inr (.inl h)
    mu := fun o ho => rfl
    len := by simp
    kept := ⟨h1.os, h1.tape, h1.output, h1.size, fun b hb _ => h1.block b hb⟩
    mine := fun o b h => absurd h (hno o b)
    hok := {
      obj := fun o z ho => by rw [hdead o z ho]; trivial
      ids := fun o cs ho => by cases hdead o _ ho
      seps := fun o o' b _ h => absurd h (hno o b)
      owns := fun o b h => absurd h (hno o b)
      inS := h4
      gl := hok.gl.mono (fun b hb => h2 b (.inl hb)) fun b hb => h1.block b (hok.inS b hb) } }
theorem mks_mks : ∀ (l : List (List Int)) (k : Int), mksII k (mksII k l) = mksII k l
  | [], _ => rfl
  | r :: l, k => by simp only [mksII, seqI_len, mks_mks l]
theorem sumW_mks : ∀ (k : Int) (l : List (List Int)), sumW (mksII k l) = sumW l
  | _, [] => rfl
  | k, r :: l => by simp only [mksII, sumW, seqI_len, sumW_mks _ l]
theorem held_mks (k : Int) (l : List (List Int)) : heldII (mksII k l) k = k + sumW l := by
  unfold heldII
  rw [mks_mks, if_pos rfl, sumW_mks]
theorem mks_sz : ∀ (k : Int) (l : List (List Int)), (∀ x ∈ l, x.length ≤ 4294967296) → ∀ x ∈ mksII k l, x.length ≤ 4294967296
  | _, [], _, x, hx => by cases hx
  | k, r :: l, h, x, hx => by
    simp only [mksII, List.mem_cons] at hx
    rcases hx with rfl | hx
    · rw [seqI_len]; exact h r List.mem_cons_self
    · exact mks_sz _ l (fun y hy => h y (List.mem_cons_of_mem _ hy)) x hx
end Cg

/-
  The codes' contracts: the law that trimmed logs are exact (under way: the rows that are handed on by their headers). No condition.
-/
set_option linter.unusedVariables false
set_option linter.unusedSimpArgs false
set_option maxRecDepth 100000
namespace Cg
open Go Go.Proofs Pl
set_option maxHeartbeats 8000000 in
theorem g_ConcatH (ls : List (List HI)) (ha : ls.length ≤ 4) (hb : ∀ y ∈ ls, y.length ≤ 1073741824) : GoalW Try.prog [K_GrowII] (A_ConcatH ls) K_ConcatH.1 K_ConcatH.2 (ls) := GoalW.of (vc_ConcatH ls) (by
  simp (maxSteps := 2000000) [-List.getD_eq_getElem?_getD, -List.mem_cons, -Bool.forall_bool, -Bool.exists_bool, and_assoc, peta, tl_inj, ex_1, ex_2, ex_3, ex_4, ex_5, ex_6, ex_7, ex_8, ex_9, ey_2, ey_3, ey_4, ey_5, ey_6, ey_7, ey_8, ey_9]
  have bnd : ∀ x, Pl.sumLen (ls.take x) ≤ 4294967296 := fun x => by
    have h1 := Pl.sumLen_le (b := 1073741824) (ls.take x) fun y hy => hb y (List.mem_of_mem_take hy)
    have h2 : (ls.take x).length ≤ 4 := by simp; omega
    omega
  refine ⟨⟨0, by simp, rfl, rfl⟩, fun k hk => ⟨fun hlt => ?_, fun hge => ?_⟩⟩
  · have e := bnd (k + 1)
    have h0 := Pl.sumLen_nonneg (ls.take (k + 1))
    rw [Pl.take_succ_getD [] hlt, Pl.sumLen_snoc] at e h0
    rw [wrap_small (by omega) (by omega)]
    exact ⟨hlt, h0, fun _ => ⟨k + 1, hlt, by omega, by rw [Pl.take_succ_getD [] hlt, Pl.sumLen_snoc], by rw [wrap_small (by omega) (by omega)]; omega⟩⟩
  · refine ⟨Pl.sumLen_nonneg _, bnd k, ⟨0, by simp, [], rfl, rfl, rfl, IsO_nil⟩, fun k b hk hb' => ⟨fun hlt => ?_, fun hge => ?_⟩⟩
    · have hb' : b = (ls.take k).flatten := hb'
      subst hb'
      have e := bnd (k + 1)
      rw [← Pl.sumLen_flat, Pl.take_succ_getD [] hlt] at e
      simp only [List.flatten_append, List.flatten_cons, List.flatten_nil, List.append_nil, List.length_append] at e
      exact ⟨hlt, by omega, k + 1, hlt, _, by show _ = _; rw [Pl.take_succ_getD [] hlt, List.flatten_append, List.flatten_cons, List.flatten_nil, List.append_nil], by omega, by simp, by rw [wrap_small (by omega) (by omega)]; omega, hintss_join⟩
    · have hb' : b = (ls.take k).flatten := hb'
      rw [hb', List.take_of_length_le hge]
      exact ⟨List.length_flatten, .inr rfl⟩)
theorem k_ConcatH : SoundC Try.prog K_ConcatH.1 K_ConcatH.2 := sound_ofW hm (CtxOK.nil.and k_GrowII) (fun (ls : List (List HI)) => A_ConcatH ls) (by kernel_rfl) fun (ls : List (List HI)) hb => g_ConcatH ls hb.1 hb.2
set_option maxHeartbeats 8000000 in
theorem g_ownLogO (l : List (List Int)) (h1 : l.length ≤ 1000) (h2 : ∀ x ∈ l, x.length ≤ 1000) : GoalW Try.prog [K_Clone] (A_ownLogO l) K_ownLogO.1 K_ownLogO.2 (l) := GoalW.of (vc_ownLogO l) (by
  simp (maxSteps := 2000000) [-List.getD_eq_getElem?_getD, -List.mem_cons, -Bool.forall_bool, -Bool.exists_bool, and_assoc, peta, tl_inj, ex_1, ex_2, ex_3, ex_4, ex_5, ex_6, ex_7, ex_8, ex_9, ey_2, ey_3, ey_4, ey_5, ey_6, ey_7, ey_8, ey_9]
  refine ⟨⟨0, Nat.zero_le _, rfl, rfl, .inl rfl⟩, fun x hx => ⟨fun hlt => ?_, fun hge => ?_⟩⟩
  · have h3 := h2 _ (getD_mem [] hlt)
    refine ⟨hlt, by omega, by omega, by omega, hlt, by omega, wrap_small (by omega) (by omega), ?_⟩
    rw [Pl.take_succ_getD [] hlt]
    exact xrII_push' (by simp; omega) IsX_ints
  · rw [List.take_of_length_le hge]
    exact ⟨by omega, xrII_self⟩)
theorem k_ownLogO : SoundC Try.prog K_ownLogO.1 K_ownLogO.2 := sound_ofW hm (CtxOK.nil.and k_Clone) (fun (l : List (List Int)) => A_ownLogO l) (by kernel_rfl) fun (l : List (List Int)) hb => g_ownLogO l hb.1 hb.2
/-- A row of rows of the call's own: its block and the rows' blocks are all new, and no two rows share one. -/
def Rws (lo : Nat) (l : List (List Int)) (wr : World) (v : Value) : Prop := ∃ (b0 off cap : Nat) (C : Array Value) (T : TypeId) (iq : Nat → Option Inn),
  v = .slice (some ⟨b0, off, none⟩) l.length cap ∧ l.length ≤ cap ∧ lo ≤ b0 ∧ wr.heap[b0]? = some (.cells C T (0, 0)) ∧ off + cap ≤ C.size ∧
  (∀ i, i < l.length → ∃ x, C[off + i]? = some x ∧ RelN (fun _ => False) wr (iq i) (l.getD i []).length 1 (fun j _ => i64 ((l.getD i []).getD j 0)) x) ∧
  (∀ i u, iq i = some u → i < l.length ∧ lo ≤ u.b ∧ u.b < wr.heap.size ∧ u.b ≠ b0) ∧ ∀ i j u v, iq i = some u → iq j = some v → u.b = v.b → i = j
theorem RelN_any {S S' : Nat → Prop} {w : World} {q : Option Inn} {n : Nat} {f : Nat → Int} {y : Value} (h : RelN S w q n 1 (fun j _ => i64 (f j)) y) : RelN S' w q n 1 (fun j _ => i64 (f j)) y := by
  cases q with
  | none => exact h
  | some u => exact h
theorem Rws.ext {lo : Nat} {l : List (List Int)} {w w' : World} {v : Value} (h : Rws lo l w v) (hx : Ext w w') : Rws lo l w' v := by
  obtain ⟨b0, off, cap, C, T, iq, h1, h2, h3, h4, h5, h6, h7, h8⟩ := h
  have hb : b0 < w.heap.size := (Array.getElem?_eq_some_iff.1 h4).1
  refine ⟨b0, off, cap, C, T, iq, h1, h2, h3, by rw [hx.block b0 hb]; exact h4, h5, fun i hi => ?_, fun i u hu => ?_, h8⟩
  · obtain ⟨x, e1, e2⟩ := h6 i hi
    exact ⟨x, e1, RelN_kept (fun u hu => hx.block _ (h7 i u hu).2.2.1) e2⟩
  · obtain ⟨a, b, c, d⟩ := h7 i u hu
    have := hx.size
    exact ⟨a, b, by omega, d⟩
/-- What a call hands back that owns its rows. -/
theorem Rws.of {S S1 : Nat → Prop} {μ1 : Nat → OI} {w W : World} {l : List (List Int)} {v : Value} (hl : 0 < l.length) (hev : Evo S mu0 [] w S1 μ1 [xrII l] W) (hr : Rel S1 μ1 W (.osl 0 0 l.length) v) : Rws w.heap.size l W v ∧ Ext w W := by
  have hx : Ext w W := ⟨hev.kept.os, hev.kept.tape, hev.kept.output, hev.kept.size, fun b hb => hev.kept.block b hb fun ⟨o, x, h, _⟩ => by simp at h⟩
  refine ⟨?_, hx⟩
  obtain ⟨hesz, hinn, hob⟩ := hev.hok.obj 0 (xrII l) rfl
  unfold Rel at hr
  cases hb : (μ1 0).b with
  | none =>
    rw [hb] at hob
    have hn : l.length = 0 := hob
    omega
  | some b =>
    rw [hb] at hr hob
    obtain ⟨hcap, C, T, hh, hsz, hel⟩ := hob
    obtain ⟨_, a, rfl, ha⟩ := hr
    have hcap : l.length ≤ (μ1 0).cap := hcap
    have ha := ha (by omega)
    rw [Nat.zero_mul, Nat.add_zero] at ha
    subst ha
    have own : ∀ {b' : Nat}, HasB (xrII l) (μ1 0) b' → w.heap.size ≤ b' ∧ b' < W.heap.size := fun {b'} h => by
      have o : Own μ1 [xrII l] 0 b' := ⟨_, rfl, h⟩
      exact ⟨(hev.mine 0 b' o).resolve_right fun ⟨o, x, h, _⟩ => by simp at h, (hev.hok.owns 0 b' o).2⟩
    refine ⟨b, (μ1 0).base, (μ1 0).cap, C, T, fun i => (μ1 0).inn i 0, rfl, hcap, (own (.inl hb)).1, hh, by simpa using hsz, fun i hi => ?_, fun i u hu => ?_, fun i j u v hu hv e => ((hinn i 0 u hu).2.2.2 j 0 v hv e.symm).1.symm⟩
    · obtain ⟨x, e1, e2⟩ := hel i hi 0 (by decide)
      refine ⟨x, by simpa using e1, ?_⟩
      exact RelN_any (S := S1) e2
    · have q := hinn i 0 u hu
      have o := own (b' := u.b) (.inr ⟨i, 0, u, hu, rfl⟩)
      exact ⟨q.2.1, o.1, o.2, fun e => q.1 (by rw [hb, e])⟩
theorem RelN_I {S S1 : Nat → Prop} {w : World} {q : Option Inn} {n e : Nat} {c : Nat → Nat → AV} {y : Value} (hS : ∀ b, S b → S1 b) (hq : ∀ u, q = some u → S1 u.b) (h : RelN S w q n e c y) : RelI S1 w (.sl n e c) y :=
  RelX_RelI (inn := fun _ _ => q) (i := 0) (j := 0) hS (fun v hv => hq v hv) h
theorem cut_len {α : Type} {l : List α} {i : Nat} (h : i < l.length) : (l.take i ++ l.drop (i + 1)).length = l.length - 1 := by simp; omega
theorem cut_get {α : Type} {d : α} {l : List α} {i j : Nat} (h : i < l.length) : (l.take i ++ l.drop (i + 1)).getD j d = l.getD (if j < i then j else j + 1) d := by
  simp only [List.getD_eq_getElem?_getD, List.getElem?_append, List.length_take, Nat.min_eq_left (Nat.le_of_lt h)]
  by_cases hj : j < i
  · rw [if_pos hj, if_pos hj, List.getElem?_take, if_pos hj]
  · rw [if_neg hj, if_neg hj, List.getElem?_drop]
    congr 2
    omega
/-- The rows with one left out: Concat hands on the rows themselves. -/
theorem call_less {lo b0 off cap i k capA capB : Nat} {l : List (List Int)} {wr W1 : World} {C : Array Value} {T T2 : TypeId} {fr : Nat × Nat} {iq : Nat → Option Inn} {Sg : Nat → Prop} (hgl : Gl Sg W1) (hSg : ∀ b, Sg b → b < W1.heap.size) (hlo : lo ≤ wr.heap.size)
    (h4 : wr.heap[b0]? = some (.cells C T (0, 0))) (h5 : off + cap ≤ C.size) (hlc : l.length ≤ cap)
    (h6 : ∀ i, i < l.length → ∃ x, C[off + i]? = some x ∧ RelN (fun _ => False) wr (iq i) (l.getD i []).length 1 (fun j _ => i64 ((l.getD i []).getD j 0)) x)
    (h7 : ∀ i u, iq i = some u → i < l.length ∧ lo ≤ u.b ∧ u.b < wr.heap.size ∧ u.b ≠ b0) (h8 : ∀ i j u v, iq i = some u → iq j = some v → u.b = v.b → i = j)
    (hi : i + 1 < l.length) (hbig : l.length ≤ 1073741824) (hx : Ext wr W1) (hA : i ≤ capA) (hB : l.length - (i + 1) ≤ capB)
    (hk : W1.heap[k]? = some (.cells #[.slice (some ⟨b0, off, none⟩) i capA, .slice (some ⟨b0, off + (i + 1), none⟩) (l.length - (i + 1)) capB] T2 fr)) :
    Calls Try.prog Nm.slices_Concat_SSint_Sint #[.slice (some ⟨k, 0, none⟩) 2 2] W1 fun e W => ∃ v', e = .returned v' ∧ Ext W1 W ∧ Rws lo (l.take i ++ l.drop (i + 1)) W v' := by
  have hb0 : b0 < wr.heap.size := (Array.getElem?_eq_some_iff.1 h4).1
  have hk0 : k < W1.heap.size := (Array.getElem?_eq_some_iff.1 hk).1
  have hsz := hx.size
  have h4' : W1.heap[b0]? = some (.cells C T (0, 0)) := by rw [hx.block b0 hb0]; exact h4
  have hgl1 : Gl (fun b => b < W1.heap.size) W1 := hgl.mono hSg fun _ _ => rfl
  obtain ⟨hl, ehl⟩ : ∃ hl : List HI, hl = (List.range l.length).map fun k => (C.getD (off + k) undef, l.getD k []) := ⟨_, rfl⟩
  have hll : hl.length = l.length := by rw [ehl]; simp
  have hlg : ∀ j, j < l.length → hl.getD j dHI = (C.getD (off + j) undef, l.getD j []) := fun j hj => by rw [ehl]; simp [List.getD_eq_getElem?_getD, hj]
  have cell : ∀ j, j < l.length → C[off + j]? = some (C.getD (off + j) undef) ∧ RelI (fun b => b < W1.heap.size) W1 (eIH (hl.getD j dHI) 0) (C.getD (off + j) undef) := fun j hj => by
    obtain ⟨x, e1, e2⟩ := h6 j hj
    have ex : C.getD (off + j) undef = x := by rw [Array.getD_eq_getD_getElem?, e1]; rfl
    rw [hlg j hj, ex]
    refine ⟨e1, rfl, ?_⟩
    exact RelN_I (S := fun _ => False) (fun _ h => h.elim) (fun u hu => by have := (h7 j u hu).2.2.1; omega) (RelN_kept (fun u hu => hx.block _ (h7 j u hu).2.2.1) e2)
  have hrel : RelI (fun b => b < W1.heap.size) W1 (hsss [hl.take i, hl.drop (i + 1)]) (.slice (some ⟨k, 0, none⟩) 2 2) := by
    refine ⟨some ⟨k, 0, none⟩, 2, rfl, Nat.le_refl _, .inr ⟨k, 0, rfl, hk0, _, _, _, hk, fun i' hi' j hj => ?_⟩⟩
    obtain rfl : j = 0 := by omega
    match i', hi' with
    | 0, _ =>
      refine ⟨_, rfl, some ⟨b0, off, none⟩, capA, ?_, ?_, ?_⟩
      · show Value.slice (some ⟨b0, off, none⟩) i capA = Value.slice (some ⟨b0, off, none⟩) (hl.take i).length capA
        rw [List.length_take, hll, Nat.min_eq_left (by omega)]
      · show (hl.take i).length ≤ capA
        rw [List.length_take]; omega
      · refine .inr ⟨b0, off, rfl, by omega, C, T, (0, 0), h4', fun j hj j' hj' => ?_⟩
        obtain rfl : j' = 0 := by omega
        have hj : j < (hl.take i).length := hj
        rw [List.length_take] at hj
        obtain ⟨c1, c2⟩ := cell j (by omega)
        refine ⟨_, by rw [Nat.mul_one, Nat.add_zero]; exact c1, ?_⟩
        have e : (hl.take i).getD j dHI = hl.getD j dHI := by simp only [List.getD_eq_getElem?_getD]; rw [List.getElem?_take, if_pos (by omega)]
        show RelI _ _ (eIH ((hl.take i).getD j dHI) 0) _
        rw [e]; exact c2
    | 1, _ =>
      refine ⟨_, rfl, some ⟨b0, off + (i + 1), none⟩, capB, ?_, ?_, ?_⟩
      · show Value.slice (some ⟨b0, off + (i + 1), none⟩) (l.length - (i + 1)) capB = Value.slice (some ⟨b0, off + (i + 1), none⟩) (hl.drop (i + 1)).length capB
        rw [List.length_drop, hll]
      · show (hl.drop (i + 1)).length ≤ capB
        rw [List.length_drop, hll]; omega
      · refine .inr ⟨b0, off + (i + 1), rfl, by omega, C, T, (0, 0), h4', fun j hj j' hj' => ?_⟩
        obtain rfl : j' = 0 := by omega
        have hj : j < (hl.drop (i + 1)).length := hj
        rw [List.length_drop, hll] at hj
        obtain ⟨c1, c2⟩ := cell (i + 1 + j) (by omega)
        refine ⟨_, by rw [Nat.mul_one, Nat.add_zero, Nat.add_assoc]; exact c1, ?_⟩
        have e : (hl.drop (i + 1)).getD j dHI = hl.getD (i + 1 + j) dHI := by simp only [List.getD_eq_getElem?_getD]; rw [List.getElem?_drop]
        show RelI _ _ (eIH ((hl.drop (i + 1)).getD j dHI) 0) _
        rw [e]; exact c2
  have hfl : [hl.take i, hl.drop (i + 1)].flatten = hl.take i ++ hl.drop (i + 1) := by simp
  refine (k_ConcatH.2 [hl.take i, hl.drop (i + 1)] ⟨by simp, fun y hy => ?_⟩ (fun b => b < W1.heap.size) mu0 W1 [.slice (some ⟨k, 0, none⟩) 2 2] (hok_nil (fun _ h => h) hgl1) ⟨_, [], rfl, hrel, rfl⟩).mono fun e W ⟨v, _, S', μ', he, _, hev, hr⟩ => ?_
  · rcases List.mem_cons.1 hy with rfl | hy
    · rw [List.length_take]; omega
    · rw [List.mem_singleton.1 hy, List.length_drop]; omega
  have hxe : Ext W1 W := ⟨hev.kept.os, hev.kept.tape, hev.kept.output, hev.kept.size, fun b hb => hev.kept.block b hb fun ⟨o, x, h, _⟩ => by simp at h⟩
  refine ⟨v, he, hxe, ?_⟩
  have hev' : Evo (fun b => b < W1.heap.size) mu0 [] W1 S' μ' [arIH (hl.take i ++ hl.drop (i + 1))] W := by rw [← hfl]; exact hev
  have hr' : Rel S' μ' W (.osl 0 0 (hl.take i ++ hl.drop (i + 1)).length) v := by rw [← hfl]; exact hr
  obtain ⟨hesz, hob⟩ := hev'.hok.obj 0 _ rfl
  have hlen : (hl.take i ++ hl.drop (i + 1)).length = l.length - 1 := by rw [cut_len (by omega), hll]
  have hlen2 : (l.take i ++ l.drop (i + 1)).length = l.length - 1 := cut_len (by omega)
  rw [hlen] at hr'
  unfold Rel at hr'
  cases hb : (μ' 0).b with
  | none =>
    rw [hb] at hob
    have hn : (hl.take i ++ hl.drop (i + 1)).length = 0 := hob
    omega
  | some b =>
    rw [hb] at hr' hob
    obtain ⟨hcap, C2, T3, hh, hsz2, hel⟩ := hob
    obtain ⟨_, a, rfl, ha⟩ := hr'
    have hcap : (hl.take i ++ hl.drop (i + 1)).length ≤ (μ' 0).cap := hcap
    have ha := ha (by omega)
    rw [Nat.zero_mul, Nat.add_zero] at ha
    subst ha
    have hown : Own μ' [arIH (hl.take i ++ hl.drop (i + 1))] 0 b := ⟨_, rfl, hb⟩
    have hnew : W1.heap.size ≤ b := (hev'.mine 0 b hown).resolve_right fun ⟨o, x, h, _⟩ => by simp at h
    refine ⟨b, (μ' 0).base, (μ' 0).cap, C2, T3, fun j => if j < l.length - 1 then iq (if j < i then j else j + 1) else none, by rw [hlen2]; rfl, by omega, by omega, hh, by simpa using hsz2, fun j hj => ?_, fun j u hu => ?_, fun j j' u v hu hv e => ?_⟩
    · rw [hlen2] at hj
      obtain ⟨x, e1, e2⟩ := hel j (by omega) 0 (by decide)
      have hσ : (if j < i then j else j + 1) < l.length := by split <;> omega
      have e3 : RelI S' W (eIH ((hl.take i ++ hl.drop (i + 1)).getD j dHI) 0) x := e2
      rw [cut_get (by omega), hlg _ hσ] at e3
      obtain ⟨x0, f1, f2⟩ := h6 _ hσ
      have ex : x = x0 := by
        rw [e3.1, Array.getD_eq_getD_getElem?, f1]; rfl
      refine ⟨x, by simpa using e1, ?_⟩
      dsimp only
      rw [cut_get (by omega), if_pos hj, ex]
      exact RelN_kept (fun u hu => by rw [hxe.block _ (by have := (h7 _ u hu).2.2.1; omega), hx.block _ (h7 _ u hu).2.2.1]) f2
    · dsimp only at hu
      split at hu
      · obtain ⟨q1, q2, q3, q4⟩ := h7 _ u hu
        have := hxe.size
        exact ⟨by omega, q2, by omega, by omega⟩
      · cases hu
    · dsimp only at hu hv
      split at hu
      · split at hv
        · have := h8 _ _ u v hu hv e
          split at this <;> split at this <;> omega
        · cases hv
      · cases hu
theorem Rws.rel {lo : Nat} {l : List (List Int)} {w : World} {v : Value} (h : Rws lo l w v) : RelI (fun b => b < w.heap.size) w (intss l) v := by
  obtain ⟨b0, off, cap, C, T, iq, h1, h2, h3, h4, h5, h6, h7, h8⟩ := h
  refine ⟨_, cap, h1, h2, .inr ⟨b0, off, rfl, (Array.getElem?_eq_some_iff.1 h4).1, C, T, (0, 0), h4, fun i hi j hj => ?_⟩⟩
  obtain rfl : j = 0 := by omega
  obtain ⟨x, e1, e2⟩ := h6 i hi
  refine ⟨x, by rw [Nat.mul_one, Nat.add_zero]; exact e1, ?_⟩
  exact RelN_I (S := fun _ => False) (fun _ h => h.elim) (fun u hu => (h7 i u hu).2.2.1) e2
/-- A pure yes or no. -/
theorem call_bool {f : FuncId} {args : List AV} {r : Bool} {w : World} {vals : List Value} {Sg : Nat → Prop} (hp : PureAt Try.prog f args (bl r)) (hgl : Gl Sg w) (hSg : ∀ b, Sg b → b < w.heap.size) (hr : RelL (fun b => b < w.heap.size) mu0 w args vals) :
    Calls Try.prog f vals.toArray w fun e W => e = .returned (.bool r) ∧ Ext w W :=
  (hp (fun b => b < w.heap.size) w vals (fun _ h => h) (hgl.mono hSg fun _ _ => rfl) hr).mono fun e W ⟨y, S', he, ha⟩ => by
    obtain ⟨h1, h2, h3, h4, h5⟩ := ha
    have h5 : y = .bool r := h5
    exact ⟨by rw [he, h5], h1⟩
/-- Rows of the call's own, as the machine's object. -/
theorem Rws.hok {S : Nat → Prop} {l : List (List Int)} {w W : World} {v : Value} (h : Rws w.heap.size l W v) (hx : Ext w W) (hin : ∀ b, S b → b < w.heap.size) (hgl : Gl S w) : ∃ μ', Evo S mu0 [] w S μ' [xrII l] W ∧ Rel S μ' W (.osl 0 0 l.length) v := by
  obtain ⟨b0, off, cap, C, T, iq, rfl, h2, h3, h4, h5, h6, h7, h8⟩ := h
  obtain ⟨μ', hμ⟩ : ∃ μ' : Nat → OI, μ' = fun o => ⟨some b0, off, cap, 1, fun i j => if j = 0 then iq i else none⟩ := ⟨_, rfl⟩
  have inn : ∀ {i j : Nat} {u : Inn}, (μ' 0).inn i j = some u → j = 0 ∧ iq i = some u := fun {i j u} h => by
    rw [hμ] at h
    dsimp only at h
    split at h
    · rename_i hj; exact ⟨hj, h⟩
    · cases h
  have hb : (μ' 0).b = some b0 := by rw [hμ]
  have own : ∀ {o b : Nat}, Own μ' [AObj.xarr l.length 1 (cII l)] o b → o = 0 ∧ w.heap.size ≤ b ∧ b < W.heap.size := fun {o b} ⟨x, hxo, hbb⟩ => by
    cases o with
    | succ o => simp at hxo
    | zero =>
      cases hxo
      refine ⟨rfl, ?_⟩
      rcases hbb with h | ⟨i, j, u, hu, rfl⟩
      · rw [hb] at h
        cases h
        exact ⟨h3, (Array.getElem?_eq_some_iff.1 h4).1⟩
      · have := h7 i u (inn hu).2
        exact ⟨by omega, this.2.2.1⟩
  refine ⟨μ', { sub := fun _ h => h, new := fun _ h => .inl h, mu := fun o ho => absurd ho (Nat.not_lt_zero _), len := Nat.zero_le _, kept := ⟨hx.os, hx.tape, hx.output, hx.size, fun b hb _ => hx.block b hb⟩, mine := fun o b h => .inl (own h).2.1, hok := { obj := fun o x ho => ?_, ids := fun o cs ho => ?_, seps := fun o o' b hne h h' => hne ((own h).1.trans (own h').1.symm), owns := fun o b h => ⟨fun hs => ?_, (own h).2.2⟩, inS := fun b hb => Nat.lt_of_lt_of_le (hin b hb) hx.size, gl := hgl.mono (fun _ h => h) fun b hs => hx.block b (hin b hs) } }, ?_⟩
  · cases o with
    | succ o => simp at ho
    | zero =>
      cases ho
      refine ⟨by rw [hμ], fun i j u hu => ?_, ?_⟩
      · obtain ⟨rfl, hu2⟩ := inn hu
        have := h7 i u hu2
        refine ⟨fun e => ?_, this.1, by omega, fun i' j' u' hu' e => ?_⟩
        · rw [hb] at e
          have := Option.some.inj e
          omega
        · obtain ⟨rfl, hu3⟩ := inn hu'
          exact ⟨h8 i' i u' u hu3 hu2 e, rfl⟩
      · rw [hμ]
        refine ⟨h2, C, _, h4, by dsimp only; omega, fun i hi j hj => ?_⟩
        obtain rfl : j = 0 := by omega
        obtain ⟨x, e1, e2⟩ := h6 i hi
        refine ⟨x, by dsimp only; rw [Nat.mul_one, Nat.add_zero]; exact e1, ?_⟩
        show RelN S W (if (0 : Nat) = 0 then iq i else none) _ _ _ x
        rw [if_pos rfl]
        exact RelN_any e2
  · cases o with
    | succ o => simp at ho
    | zero => cases ho
  · have := hin b hs
    have := (own h).2.1
    omega
  · unfold Rel
    rw [hb]
    refine ⟨by rw [hμ]; dsimp only; omega, ⟨b0, off, none⟩, by rw [hμ]; rfl, fun _ => by rw [hμ]; simp⟩
end Cg

/-
  The code of LogTrim, walked by hand: what it hands back is the call's own. No condition.
-/
set_option linter.unusedVariables false
set_option linter.unusedSimpArgs false
set_option maxRecDepth 100000
namespace Cg
open Go Go.Proofs Go.RowKit Pl
theorem Rws.lo {lo lo' : Nat} {l : List (List Int)} {w : World} {v : Value} (h : Rws lo l w v) (hl : lo' ≤ lo) : Rws lo' l w v := by
  obtain ⟨b0, off, cap, C, T, iq, h1, h2, h3, h4, h5, h6, h7, h8⟩ := h
  exact ⟨b0, off, cap, C, T, iq, h1, h2, by omega, h4, h5, h6, fun i u hu => ⟨(h7 i u hu).1, by have := (h7 i u hu).2.1; omega, (h7 i u hu).2.2⟩, h8⟩
theorem call_own {log : List (List Int)} {W : World} {v : Value} {Sg : Nat → Prop} (hgl : Gl Sg W) (hSg : ∀ b, Sg b → b < W.heap.size) (h0 : 0 < log.length) (h1 : log.length ≤ 1000) (h2 : ∀ x ∈ log, x.length ≤ 1000) (hv : RelI (fun b => b < W.heap.size) W (intss log) v) :
    Calls Try.prog 44 #[v] W fun e W' => ∃ v', e = .returned v' ∧ Rws W.heap.size log W' v' ∧ Ext W W' :=
  (k_ownLogO.2 log ⟨h1, h2⟩ (fun b => b < W.heap.size) mu0 W [v] (hok_nil (fun _ h => h) (hgl.mono hSg fun _ _ => rfl)) ⟨_, [], rfl, hv, rfl⟩).mono fun e W' ⟨v', _, S', μ', he, _, hev, hr⟩ => by
    obtain ⟨q1, q2⟩ := Rws.of h0 hev hr
    exact ⟨v', he, q1, q2⟩
/-- Known, and not seen by the walk. -/
structure Hide (p : Prop) : Prop where
  out : p
set_option maxHeartbeats 2000000 in
theorem w_iLogTrim (c : Cnf) (log : List (List Int)) (h : TrOk (c, log)) (S : Nat → Prop) (w : World) (vcs vl : Value) (hin : ∀ b, S b → b < w.heap.size) (hgl : Gl S w) (hc : RelI S w (intss c.2) vcs) (hl : RelI S w (intss log) vl)
    (hok : logOk c log = true) (hen : logEnds log = true) :
    Calls Try.prog 27 #[.agg #[.int .i64 c.1, vcs], vl] w fun e W => (∃ v, e = .returned (.tuple #[v, .bool true]) ∧ Rws w.heap.size (logTrim c log).1 W v) ∧ Ext w W := by
  have callOk : ∀ (l : List (List Int)) (W : World) (v : Value), SzC c → Sz l → (∀ y ∈ l, SzH y) → Ext w W → RelI (fun b => b < W.heap.size) W (intss l) v →
      Calls Try.prog 42 #[.agg #[.int .i64 c.1, vcs], v] W fun e W' => e = .returned (.bool (logOk c l)) ∧ Ext W W' := fun l W v z1 z2 z3 hx hv => by
    refine call_bool (k_iLogOk.2 (c, l) ⟨z1, z2, z3⟩) (hgl.mono (S' := S) (fun _ h => h) fun b hb => hx.block b (hin b hb)) (fun b hb => Nat.lt_of_lt_of_le (hin b hb) hx.size) ?_
    refine ⟨_, _, rfl, ⟨[.int .i64 c.1, vcs], rfl, ?_⟩, _, _, rfl, hv, rfl⟩
    exact ⟨_, _, rfl, rfl, _, _, rfl, RelI_mono (fun b hb => Nat.lt_of_lt_of_le (hin b hb) hx.size) (fun b hb => hx.block b (hin b hb)) _ _ hc, rfl⟩
  obtain ⟨la, lcap, rfl, hlc, hlb⟩ := id hl
  obtain ⟨⟨z1, z2⟩, z3, z4⟩ : SzC c ∧ Sz log ∧ ∀ y ∈ log, SzH y := h
  obtain ⟨w1, hw1⟩ : ∃ w1, w1 = w.alloc (Obj.cells #[.int .i64 c.1, vcs] 29) := ⟨_, rfl⟩
  have x1 : Ext w w1 := by rw [hw1]; exact Below.ext' ((Below.refl _ w).alloc (Nat.le_refl _) _)
  have hcall1 := callOk log w1 _ ⟨z1, z2⟩ z3 z4 x1 (RelI_mono (fun b hb => Nat.lt_of_lt_of_le (hin b hb) x1.size) (fun b hb => x1.block b (hin b hb)) _ _ hl)
  rw [hok] at hcall1
  have hboxw : w1.heap[w.heap.size]? = some (Obj.cells #[.int .i64 c.1, vcs] 29 (0, 0)) := by rw [hw1]; exact heap_alloc_new w _
  go_enter Try.func27, Try.ntmps27
  go_wp2_with (go_at_call 42; rw [← hw1]; refine hcall1.mono ?_)
  intro e W1 he x2
  subst he
  rw [← hw1] at x2
  have hcall2 := call_bool (k_iLogEnds.2 log z3) (hgl.mono (S' := S) (fun _ h => h) fun b hb => (x1.trans x2).block b (hin b hb)) (fun b hb => Nat.lt_of_lt_of_le (hin b hb) (x1.trans x2).size)
    ⟨_, _, rfl, RelI_mono (fun b hb => Nat.lt_of_lt_of_le (hin b hb) (x1.trans x2).size) (fun b hb => (x1.trans x2).block b (hin b hb)) _ _ hl, rfl⟩
  rw [hen] at hcall2
  go_wp2_with (go_at_call 43; refine hcall2.mono ?_)
  intro e W2 hN
  obtain ⟨he, x3⟩ := hN
  subst he
  have x4 : Ext w W2 := (x1.trans x2).trans x3
  have hI := Pl.TrimI.init hok hen
  obtain ⟨i1, i2, i3, i4⟩ := id hI
  have hcall3 := call_own (hgl.mono (S' := S) (fun _ h => h) fun b hb => x4.block b (hin b hb)) (fun b hb => Nat.lt_of_lt_of_le (hin b hb) x4.size) (by omega) (by omega) (fun x hx => by have := i3 x hx; omega)
    (RelI_mono (fun b hb => Nat.lt_of_lt_of_le (hin b hb) x4.size) (fun b hb => x4.block b (hin b hb)) _ _ hl)
  go_wp2_with (go_at_call 44; refine hcall3.mono ?_)
  intro e W3 hN
  obtain ⟨v6, he, hR, x5⟩ := hN
  subst he
  have hR0 := hR.lo x4.size
  have x6 : Ext w1 W3 := (x2.trans x3).trans x5
  clear hcall1 hcall2 hcall3 hR
  go_wp2
  go_loopw [6, 7] (fun v6 v7 wr => ∃ (k : Nat) (out : List (List Int)), v7 = .int .i64 ((k : Int) - 1) ∧ TrimI c log k out ∧ Ext w1 wr ∧ Rws w.heap.size out wr v6) (fun v6 v7 wr => match v7 with | .int _ i => (i + 1).toNat | _ => 0)
  case atStart =>
    exact ⟨log.length - 1, log, by rw [show ((log.length - 1 : Nat) : Int) - 1 = (log.length : Int) - 2 by omega], hI, x6, hR0⟩
  case round =>
    obtain ⟨k, out, rfl, hT, hx, hR⟩ := hrel
    obtain ⟨t1, t2, t3, t4⟩ := id hT
    have hR' := hR
    obtain ⟨b0, off, cap, C, T, iq, rfl, r2, r3, r4, r5, r6, r7, r8⟩ := hR'
    by_cases hk : k = 0
    · subst hk
      have e1 : (logTrim c log).1 = out := by unfold logTrim; rw [if_pos ⟨hok, hen⟩]; exact t4
      have hx1 := x1.trans hx
      clear hlb r6 r7 r8
      go_wp2
      go_ret2
      exact ⟨⟨_, rfl, by rw [e1]; exact hR⟩, hx1⟩
    · obtain ⟨n, rfl⟩ : ∃ n, k = n + 1 := ⟨k - 1, by omega⟩
      have e1 : ((n + 1 : Nat) : Int) - 1 = (n : Int) := by omega
      rw [e1]
      clear hlb
      have f1 : IntKind.i64.wrap ((n : Int) + 1) = (n : Int) + 1 := wrap_small (by omega) (by omega)
      have f2 : (0 : Int) ≤ (n : Int) + 1 := by omega
      have f3 : ((n : Int) + 1).toNat = n + 1 := by omega
      have f4 : n ≤ out.length := by omega
      have f8 : (n : Int) + 1 ≤ (out.length : Int) := by omega
      have f9 : (n : Int) + 1 ≤ (cap : Int) := by omega
      have f10 : (n : Int) ≤ (cap : Int) := by omega
      have f5 : n + 1 ≤ out.length := by omega
      have f6 : n ≤ cap := by omega
      have f7 : ¬ cap = n + 1 := by omega
      go_wp2
      go_still_tail 7, (by kernel_rfl)
      change wpList _ _ _ _ _ wr.drew
      obtain ⟨w9, hw9⟩ : ∃ w9, w9 = wr.drew := ⟨_, rfl⟩
      rw [← hw9]
      have x9 : Ext wr w9 := by rw [hw9]; exact Ext.drawn wr _
      have xA : Ext wr (w9.alloc (Obj.cells #[.slice (some ⟨b0, off, none⟩) n cap, .slice (some ⟨b0, off + (n + 1), none⟩) (out.length - (n + 1)) (cap - (n + 1))] 22)) := x9.trans (Below.ext' ((Below.refl _ w9).alloc (Nat.le_refl _) _))
      have xB := (x1.trans hx).trans xA
      have hcallL := call_less (lo := w.heap.size) (i := n) (k := w9.heap.size) (capA := cap) (capB := cap - (n + 1)) (l := out) (wr := wr) (Sg := S) (T2 := 22) (fr := (0, 0)) (hgl.mono (S' := S) (fun _ h => h) fun b hb => xB.block b (hin b hb)) (fun b hb => Nat.lt_of_lt_of_le (hin b hb) xB.size) (x1.trans hx).size r4 r5 r2 r6 r7 r8 (by omega) (by omega) xA f6 (by omega)
        (heap_alloc_new w9 _)
      have hcallOk := Hide.mk callOk
      have hkeep := Hide.mk (And.intro hT (And.intro (x1.trans hx) (And.intro xA (And.intro xB (And.intro hx (And.intro hR hboxw))))))
      have hnb : n ≤ 130 := by omega
      clear callOk hboxw hl hc xA xB x9 hR r2 r3 r4 r5 r6 r7 r8 t1 t2 t3 t4 hT hx f1 f2 f3 f4 f5 f6 f7 f8 f9 f10 e1 hI i1 i2 i3 i4 hw9
      go_wp2_with (go_at_call 45; refine hcallL.mono ?_)
      intro e W9 hN
      obtain ⟨v8, he, x10, hR2⟩ := hN
      subst he
      clear hcallL
      obtain ⟨hT, xhx, xA, xB, hx, hR, hbox⟩ := hkeep.out
      have x11 : Ext w W9 := xB.trans x10
      obtain ⟨q1, q2, q3, q4⟩ := id hT
      have hlen : (out.take n ++ out.drop (n + 1)).length = out.length - 1 := cut_len (by omega)
      have hcallK := hcallOk.out (out.take n ++ out.drop (n + 1)) W9 v8 ⟨z1, z2⟩ (by show _ ≤ _; omega) (fun y hy => by
        have := q3 y ((List.mem_append.1 hy).elim List.mem_of_mem_take List.mem_of_mem_drop)
        show _ ≤ _; omega) x11 hR2.rel
      have hb9 : W9.heap[w.heap.size]? = some (Obj.cells #[.int .i64 c.1, vcs] 29 (0, 0)) := by
        rw [((hx.trans xA).trans x10).block _ (Array.getElem?_eq_some_iff.1 hbox).1]; exact hbox
      have hc0 : W9.cell? ⟨w.heap.size, 0, none⟩ = some (.int .i64 c.1) := by unfold World.cell?; rw [hb9]; rfl
      have hc1 : W9.cell? ⟨w.heap.size, 1, none⟩ = some vcs := by unfold World.cell?; rw [hb9]; rfl
      have hkeep2 := Hide.mk (And.intro hR2 (And.intro hT (And.intro (hR.ext (xA.trans x10)) ((hx.trans xA).trans x10))))
      clear hkeep hR hR2 hT xhx xA xB hx hbox x11 q1 q2 q3 q4 hlen hb9 x10 hcallOk
      cases hg : logOk c (out.take n ++ out.drop (n + 1)) with
      | true =>
        rw [hg] at hcallK
        go_wp2_with (go_at_call 42; refine hcallK.mono ?_)
        intro e W10 hN
        obtain ⟨he, x12⟩ := hN
        subst he
        clear hcallK hc0 hc1
        have hw : wrap64 ((n : Int) - 1) = (n : Int) - 1 := (by unfold wrap64; omega)
        go_wp2
        go_roundw
        case rel =>
          obtain ⟨hR2, hT, hR, xx⟩ := hkeep2.out
          first
            | exact ⟨n, _, by rw [hw], hT.some hg, xx.trans x12, hR2.ext x12⟩
            | exact ⟨n, _, rfl, hT.some hg, xx.trans x12, hR2.ext x12⟩
        case measure =>
          first
            | (show ((wrap64 ((n : Int) - 1)) + 1).toNat < ((n : Int) + 1).toNat
               rw [hw]; omega)
            | (show ((n : Int) - 1 + 1).toNat < ((n : Int) + 1).toNat
               omega)
      | false =>
        rw [hg] at hcallK
        go_wp2_with (go_at_call 42; refine hcallK.mono ?_)
        intro e W10 hN
        obtain ⟨he, x12⟩ := hN
        subst he
        clear hcallK hc0 hc1
        have hw : wrap64 ((n : Int) - 1) = (n : Int) - 1 := (by unfold wrap64; omega)
        go_wp2
        go_roundw
        case rel =>
          obtain ⟨hR2, hT, hR, xx⟩ := hkeep2.out
          first
            | exact ⟨n, _, by rw [hw], hT.none hg, xx.trans x12, hR.ext x12⟩
            | exact ⟨n, _, rfl, hT.none hg, xx.trans x12, hR.ext x12⟩
        case measure =>
          first
            | (show ((wrap64 ((n : Int) - 1)) + 1).toNat < ((n : Int) + 1).toNat
               rw [hw]; omega)
            | (show ((n : Int) - 1 + 1).toNat < ((n : Int) + 1).toNat
               omega)
end Cg

/-
  The code of LogTrim, walked by hand where it hands back nothing. No condition.
-/
set_option linter.unusedVariables false
set_option linter.unusedSimpArgs false
set_option maxRecDepth 100000
namespace Cg
open Go Go.Proofs Go.RowKit Pl
set_option maxHeartbeats 2000000 in
theorem w_iLogTrim_no (c : Cnf) (log : List (List Int)) (h : TrOk (c, log)) (S : Nat → Prop) (w : World) (vcs vl : Value) (hin : ∀ b, S b → b < w.heap.size) (hgl : Gl S w) (hc : RelI S w (intss c.2) vcs) (hl : RelI S w (intss log) vl)
    (hno : ¬ (logOk c log = true ∧ logEnds log = true)) :
    Calls Try.prog 27 #[.agg #[.int .i64 c.1, vcs], vl] w fun e W => e = .returned (.tuple #[.slice none 0 0, .bool false]) ∧ Ext w W := by
  obtain ⟨la, lcap, rfl, hlc, hlb⟩ := id hl
  obtain ⟨⟨z1, z2⟩, z3, z4⟩ : SzC c ∧ Sz log ∧ ∀ y ∈ log, SzH y := h
  obtain ⟨w1, hw1⟩ : ∃ w1, w1 = w.alloc (Obj.cells #[.int .i64 c.1, vcs] 29) := ⟨_, rfl⟩
  have x1 : Ext w w1 := by rw [hw1]; exact Below.ext' ((Below.refl _ w).alloc (Nat.le_refl _) _)
  have hcall1 : Calls Try.prog 42 #[.agg #[.int .i64 c.1, vcs], .slice la log.length lcap] w1 fun e W' => e = .returned (.bool (logOk c log)) ∧ Ext w1 W' := by
    refine call_bool (k_iLogOk.2 (c, log) ⟨⟨z1, z2⟩, z3, z4⟩) (hgl.mono (S' := S) (fun _ h => h) fun b hb => x1.block b (hin b hb)) (fun b hb => Nat.lt_of_lt_of_le (hin b hb) x1.size) ?_
    refine ⟨_, _, rfl, ⟨[.int .i64 c.1, vcs], rfl, ?_⟩, _, _, rfl, RelI_mono (fun b hb => Nat.lt_of_lt_of_le (hin b hb) x1.size) (fun b hb => x1.block b (hin b hb)) _ _ hl, rfl⟩
    exact ⟨_, _, rfl, rfl, _, _, rfl, RelI_mono (fun b hb => Nat.lt_of_lt_of_le (hin b hb) x1.size) (fun b hb => x1.block b (hin b hb)) _ _ hc, rfl⟩
  cases hok : logOk c log with
  | false =>
    rw [hok] at hcall1
    clear hlb
    go_enter Try.func27, Try.ntmps27
    go_wp2_with (go_at_call 42; rw [← hw1]; refine hcall1.mono ?_)
    intro e W1 hN
    obtain ⟨he, x2⟩ := hN
    subst he
    try rw [← hw1] at x2
    go_wp2
    go_ret2
    exact ⟨rfl, x1.trans x2⟩
  | true =>
    have hen : logEnds log = false := by
      cases he : logEnds log with
      | false => rfl
      | true => exact absurd ⟨hok, he⟩ hno
    rw [hok] at hcall1
    clear hlb
    go_enter Try.func27, Try.ntmps27
    go_wp2_with (go_at_call 42; rw [← hw1]; refine hcall1.mono ?_)
    intro e W1 hN
    obtain ⟨he, x2⟩ := hN
    subst he
    try rw [← hw1] at x2
    have hcall2 := call_bool (k_iLogEnds.2 log z3) (hgl.mono (S' := S) (fun _ h => h) fun b hb => (x1.trans x2).block b (hin b hb)) (fun b hb => Nat.lt_of_lt_of_le (hin b hb) (x1.trans x2).size)
      ⟨_, _, rfl, RelI_mono (fun b hb => Nat.lt_of_lt_of_le (hin b hb) (x1.trans x2).size) (fun b hb => (x1.trans x2).block b (hin b hb)) _ _ hl, rfl⟩
    rw [hen] at hcall2
    go_wp2_with (go_at_call 43; refine hcall2.mono ?_)
    intro e W2 hN
    obtain ⟨he, x3⟩ := hN
    subst he
    go_wp2
    go_ret2
    exact ⟨rfl, (x1.trans x2).trans x3⟩
theorem k_iLogTrimO : SoundC Try.prog K_iLogTrimO.1 K_iLogTrimO.2 := ⟨callable_of (by kernel_rfl), fun x hx S μ w vals hok hrel => by
  obtain ⟨c, log⟩ := x
  obtain ⟨v0, r0, rfl, ⟨cs, rfl, hcs⟩, v1, r1, rfl, hb, hnil⟩ := hrel
  cases hnil
  obtain ⟨u0, s0, rfl, hu0, u1, s1, rfl, hu1, hn⟩ := hcs
  cases hn
  have hu0 : u0 = .int .i64 c.1 := hu0
  subst hu0
  have hu1 : RelI S w (intss c.2) u1 := hu1
  have hb : RelI S w (intss log) v1 := hb
  by_cases hq : logOk c log = true ∧ logEnds log = true
  · refine (w_iLogTrim c log hx S w u1 v1 hok.inS hok.gl hu1 hb hq.1 hq.2).mono fun e W ⟨⟨v, he, hR⟩, hxx⟩ => ?_
    have e2 : (logTrim c log).2 = true := by unfold logTrim; rw [if_pos hq]
    obtain ⟨μ', hev, hr⟩ := hR.hok hxx hok.inS hok.gl
    refine ⟨_, (), S, μ', he, trivial, { sub := hev.sub, new := fun b hb => .inl hb, mu := fun o ho => absurd ho (Nat.not_lt_zero _), len := hev.len, kept := ⟨hxx.os, hxx.tape, hxx.output, hxx.size, fun b hb _ => hxx.block b hb⟩, mine := fun o b h => (hev.mine o b h).imp id fun ⟨o, x, h, _⟩ => by simp at h, hok := hev.hok }, ⟨[v, .bool true], rfl, v, _, rfl, hr, _, _, rfl, ?_, rfl⟩⟩
    show Value.bool true = .bool (logTrim c log).2
    rw [e2]
  · refine (w_iLogTrim_no c log hx S w u1 v1 hok.inS hok.gl hu1 hb hq).mono fun e W ⟨he, hxx⟩ => ?_
    have e2 : logTrim c log = ([], false) := by unfold logTrim; rw [if_neg hq]
    obtain ⟨μ', hμ⟩ : ∃ μ' : Nat → OI, μ' = fun _ => ⟨none, 0, 0, 1, fun _ _ => none⟩ := ⟨_, rfl⟩
    have own : ∀ {o b : Nat}, ¬ Own μ' [xrII []] o b := fun {o b} ⟨x, hxo, hbb⟩ => by
      cases o with
      | succ o => simp at hxo
      | zero =>
        cases hxo
        rw [hμ] at hbb
        rcases hbb with h | ⟨i, j, u, hu, _⟩
        · cases h
        · cases hu
    show ∃ v y S' μ', e = .returned v ∧ True ∧ Evo S μ [] w S' μ' [xrII (logTrim c log).1] W ∧ Rel S' μ' W (.tup [.osl 0 0 (logTrim c log).1.length, bl (logTrim c log).2]) v
    rw [e2]
    refine ⟨_, (), S, μ', he, trivial, { sub := fun _ h => h, new := fun _ h => .inl h, mu := fun o ho => absurd ho (Nat.not_lt_zero _), len := Nat.zero_le _, kept := ⟨hxx.os, hxx.tape, hxx.output, hxx.size, fun b hb _ => hxx.block b hb⟩, mine := fun o b h => absurd h own, hok := { obj := fun o x ho => ?_, ids := fun o cs ho => ?_, seps := fun o o' b _ h => absurd h own, owns := fun o b h => absurd h own, inS := fun b hb => Nat.lt_of_lt_of_le (hok.inS b hb) hxx.size, gl := hok.gl.mono (fun _ h => h) fun b hs => hxx.block b (hok.inS b hs) } }, ⟨[.slice none 0 0, .bool false], rfl, _, _, rfl, ?_, _, _, rfl, rfl, rfl⟩⟩
    · cases o with
      | succ o => simp at ho
      | zero =>
        cases ho
        rw [hμ]
        exact ⟨rfl, ⟨fun i j u (hu : (none : Option Inn) = some u) => absurd hu (by simp), rfl⟩⟩
    · cases o with
      | succ o => simp at ho
      | zero => cases ho
    · unfold Rel
      rw [hμ]
      exact ⟨rfl, rfl, none, rfl⟩⟩
end Cg

/-
  The codes' contracts: the law that trimmed logs are exact. No condition.
-/
set_option linter.unusedVariables false
set_option linter.unusedSimpArgs false
set_option maxRecDepth 100000
namespace Cg
open Go Go.Proofs Pl
theorem k_iLogTrimL : SoundC Try.prog K_iLogTrimL.1 K_iLogTrimL.2 := ⟨k_iLogTrimO.1, SoundE.lend k_iLogTrimO.2 (fun x y z hz => by
    have e := List.mem_singleton.1 hz
    subst e
    exact fun i hi j hj => plainX_sl fun i hi j hj => plainI_v _) (fun x y S S' μ w v hr => hr) (fun x y => rfl) id (fun x => [.agg [i64 x.1.1, .osl 0 0 x.1.2.length], .osl 1 0 x.2.length]) (fun x => [xrII x.1.2, xrII x.2]) (fun x => ⟨_, rfl, by simp⟩)⟩
theorem k_sLogTrimG : SoundC Try.prog K_sLogTrimG.1 K_sLogTrimG.2 := ⟨k_sLogTrim.1, SoundE.give k_sLogTrim.2 (fun x k => rfl) (id : LtX → Pl.Cnf × List (List Int)) (fun x => [.agg [i64 x.1.1, .osl 0 0 x.1.2.length], .osl 1 0 x.2.length]) (fun x => [xrII x.1.2, xrII x.2]) (fun x => ⟨_, rfl, by simp⟩)⟩
set_option maxHeartbeats 8000000 in
theorem g_xLogTrim (c : Pl.Cnf) (l : List (List Int)) (h1 : MlL c.2 ∧ MlL l) : GoalW Try.prog [K_szCnf, K_szIntSS, K_toCnfO, K_toIntSSO, K_sLogTrimG, K_iLogTrimL, K_eqIntSS, K_eqCnf, K_markCnf, K_markIntSS, K_heldIntSS] ([]) K_xLogTrim.1 K_xLogTrim.2 ((c, l)) := GoalW.of (vc_xLogTrim c l) (by
  simp (maxSteps := 2000000) [-List.getD_eq_getElem?_getD, -List.mem_cons, -Bool.forall_bool, -Bool.exists_bool, and_assoc, peta, tl_inj, ex_1, ex_2, ex_3, ex_4, ex_5, ex_6, ex_7, ex_8, ex_9, ey_2, ey_3, ey_4, ey_5, ey_6, ey_7, ey_8, ey_9]
  obtain ⟨m1, m2⟩ := h1
  refine ⟨m1.1, m1.2, fun hz => ?_⟩
  obtain ⟨z1, z2⟩ := szSS_le (by decide) hz
  have hw := szSS_sum hz
  have f := szSS_fu (by decide) hz
  refine ⟨m2.1, m2.2, f.1, f.2, fun hzl => ?_⟩
  obtain ⟨y1, y2⟩ := szSS_le f.2 hzl
  have y3 := szSS_le' f.2 hzl
  have hwl := szSS_sum hzl
  have f2 := f.2
  obtain ⟨g2, g3⟩ := Pl.logTrim_sz (c := c) (log := l)
  have hsum : sumW (logTrim c l).1 ≤ 60 * 130 := by
    have : ∀ l : List (List Int), (∀ x ∈ l, x.length ≤ 60) → sumW l ≤ 60 * l.length := fun l => by
      induction l with
      | nil => intro _; simp [sumW]
      | cons r l ih =>
        intro h
        have a := h r List.mem_cons_self
        have b := ih fun x hx => h x (List.mem_cons_of_mem _ hx)
        simp only [sumW, List.length_cons]; omega
    have := this _ g3; omega
  generalize hR : logTrim c l = R at g2 g3 hsum
  obtain ⟨lg, ok⟩ := R
  dsimp only at g2 g3 hsum
  have hc : logTrim (c.1, c.2) l = (lg, ok) := hR
  have hlg : ∀ x ∈ lg, x.length ≤ 4294967296 := fun x hx => by have := g3 x hx; omega
  refine ⟨z1, z2, y1, y2, c.1, c.2, z1, z2, l, y1, y3, rfl, rfl, rfl, xrII_self, xrII_self, z1, z2, y1, y2, c.1, c.2, z1, z2, l, y1, y3, rfl, rfl, rfl, xrII_self, xrII_self, ?_⟩
  rw [hc]
  dsimp only
  have hL : Is (AV.sl lg.length 1 (cII (mksII 1 lg))) (intss (mksII 1 lg)) := (intss_take (l := mksII 1 lg) (m := mksII 1 lg) (n := lg.length) (by simp)).2 (by rw [List.take_of_length_le (by simp)])
  have hh := held_mks 1 lg
  have hs := sumW_mks 1 lg
  have hz' : ∀ x ∈ mksII 1 lg, x.length ≤ 4294967296 := mks_sz 1 lg hlg
  refine ⟨by omega, hlg, rfl, fun _ => ⟨rfl, fun _ => ⟨z1, z2, Nat.le_refl _, intss_self, z1, z2, y1, y2, Nat.le_refl _, l, intss_self, y1, y2, rfl, fun _ => ⟨c.1, c.2, z1, z2, by omega, rfl, rfl, xrII_self, l, y1, y2, by omega, by omega, rfl, xrII_self, by omega, fun _ => ⟨by omega, hlg, rfl, fun _ => ⟨rfl, fun _ => ?_⟩⟩⟩⟩⟩⟩
  refine ⟨lg, by omega, hlg, by omega, rfl, xrII_self, by simp, mksII 1 lg, hL, by simp; omega, hz', by omega, by omega, fun _ => ⟨by omega, fun _ => ⟨z1, z2, y1, y2, c.1, c.2, z1, z2, l, y1, y3, rfl, rfl, rfl, xrII_self, xrII_self, ?_⟩⟩⟩
  rw [hc]
  dsimp only
  exact ⟨by omega, hlg, rfl, fun _ => ⟨rfl, fun _ => ⟨by simp, mksII 1 lg, hL, by simp; omega, hz', by omega, by omega, fun _ => by omega⟩⟩⟩)
theorem k_xLogTrim : SoundC Try.prog K_xLogTrim.1 K_xLogTrim.2 := sound_ofW hm (((((((((((CtxOK.nil.and k_heldIntSS).and k_markIntSS).and k_markCnf).and k_eqCnf).and k_eqIntSS).and k_iLogTrimL).and k_sLogTrimG).and k_toIntSSO).and k_toCnfO).and k_szIntSS).and k_szCnf) (fun ((c, l) : LtX) => []) (by kernel_rfl) fun ((c, l) : LtX) hb => g_xLogTrim c l hb
end Cg
