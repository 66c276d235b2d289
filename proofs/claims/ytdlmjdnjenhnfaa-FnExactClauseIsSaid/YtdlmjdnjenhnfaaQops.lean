/-
  Quiet operations of the machine, one by one. No condition.
-/
import Derived.Test.YtdlmjdnjenhnfaaQuiet
namespace Cg
open Go

section
variable {P : Program} {S : Nat → Prop} {μ : Nat → OI} {w : World}

theorem loadA_sound {H : List AObj} {t : TypeId} {av v : AV} {p : List Prop} (h : loadA P H t av = some (p, v)) (hp : ∀ q ∈ p, q) (hH : HOK S μ w H) {y : Value} (hr : Rel S μ w av y) :
    ∃ x, (Instr.loadAt t y).run P w = .ok x w ∧ Rel S μ w v x := by
  unfold loadA at h
  split at h
  · rename_i ht
    split at h
    · rename_i q cs hc
      simp only [Option.some.injEq, Prod.mk.injEq] at h
      obtain ⟨rfl, rfl⟩ := h
      obtain ⟨hl, a, rfl, ha, hx⟩ := cellsAt_sound hc hp hH hr
      obtain ⟨vs, h1, h2⟩ := values_at cs 0 (fun i v hi => by simpa using hx i v hi)
      obtain ⟨hagg, i, hi⟩ := aggT_true (w := w) ht
      have hlen : vs.length = P.cellsOf t := by rw [RelL_length h1, hl]
      refine ⟨.agg vs.toArray, ?_, vs, rfl, h1⟩
      have hload := run_loadCells_list (P := P) w a vs (fun j v hv => by rw [add_eq ha]; simpa using h2 j v hv)
      have hs : (Go.sizeOf t).run P w = .ok (P.cellsOf t) w := by simp [Go.sizeOf, typeInfo, hi, Program.cellsOf]
      simp only [Instr.loadAt, Instr.sureAddr, loadVar, Sem.run_bind, Sem.run_pure, Result.andThen_ok, hagg, hs, if_true]
      rw [← hlen, hload]
      rfl
    · cases h
  · rename_i ht
    split at h
    · rename_i q c hc
      simp only [Option.some.injEq, Prod.mk.injEq] at h
      obtain ⟨rfl, rfl⟩ := h
      obtain ⟨hl, a, rfl, ha, hx⟩ := cellsAt_sound hc hp hH hr
      obtain ⟨x, h1, h2⟩ := hx 0 c (by simp)
      refine ⟨x, ?_, h2⟩
      have ha' : (⟨a.block, a.off + 0, none⟩ : Addr) = a := by obtain ⟨b, o, s⟩ := a; simp at ha; subst ha; rfl
      rw [ha'] at h1
      simp only [Instr.loadAt, Instr.sureAddr, loadVar, Sem.run_bind, Sem.run_pure, Result.andThen_ok, aggT_false ht]
      simp [h1]
    · cases h
  · cases h

theorem fieldOf_some {t : TypeId} {f : Nat} {fd : Field} (h : fieldOf P t f = some fd) : ∃ fs, P.underlying t = some (.struct fs) ∧ fs[f]? = some fd := by
  unfold fieldOf at h
  split at h
  · rename_i fs hu; exact ⟨fs, hu, h⟩
  · cases h

theorem elemOf_some {t e : TypeId} (h : elemOf P t = some e) : P.underlying t = some (.slice e) := by
  unfold elemOf at h
  split at h
  · rename_i hu; simp only [Option.some.injEq] at h; subst h; exact hu
  · cases h

theorem cellsOf_pos {t : TypeId} (h : P.cellsOf t ≠ 0) : ∃ i, P.info? t = some i ∧ i.size = P.cellsOf t := by
  unfold Program.cellsOf at h ⊢
  cases hi : P.info? t with
  | none => rw [hi] at h; simp at h
  | some i => exact ⟨i, rfl, by simp⟩

theorem run_sizeOf {t : TypeId} (h : P.cellsOf t ≠ 0) : (Go.sizeOf t).run P w = .ok (P.cellsOf t) w := by
  obtain ⟨i, hi, hs⟩ := cellsOf_pos h
  simp [Go.sizeOf, typeInfo, hi, hs]

theorem fieldAddr_sound {t : TypeId} {av v : AV} {f : Nat} {p : List Prop} (h : aFieldAddr P t av f = some (p, v)) {y : Value} (hr : Rel S μ w av y) :
    ∃ x, (Instr.fieldAt t y f).run P w = .ok x w ∧ Rel S μ w v x := by
  unfold aFieldAddr at h
  split at h
  · rename_i fd hf
    obtain ⟨fs, hu, hfs⟩ := fieldOf_some hf
    cases hz : Nat.beq (P.cellsOf fd.type) 0
    · simp only [hz, cond_false] at h
      have hne : P.cellsOf fd.type ≠ 0 := fun e => by rw [e] at hz; simp at hz
      have run : ∀ a : Addr, (Instr.fieldAt t (.pointer (some a)) f).run P w = .ok (.pointer (some (a.add fd.offset))) w := by
        intro a
        simp only [Instr.fieldAt, Instr.sureAddr, fieldPlace, Go.underlying, Sem.run_bind, run_program, Result.andThen_ok, hu, Sem.run_pure, hfs, run_sizeOf hne, if_neg hne]
      split at h
      · simp only [ok, Option.some.injEq, Prod.mk.injEq] at h
        obtain ⟨rfl, rfl⟩ := h
        obtain ⟨b, h1, rfl⟩ := hr
        exact ⟨_, run _, b, h1, by rw [add_eq rfl]⟩
      · simp only [ok, Option.some.injEq, Prod.mk.injEq] at h
        obtain ⟨rfl, rfl⟩ := h
        obtain ⟨b, o, rfl, h2⟩ := hr
        exact ⟨_, run _, b, o, by rw [add_eq rfl]; simp [Nat.add_assoc], h2⟩
      · simp only [ok, Option.some.injEq, Prod.mk.injEq] at h
        obtain ⟨rfl, rfl⟩ := h
        obtain ⟨b, h1, h2, rfl⟩ := hr
        exact ⟨_, run _, b, h1, h2, by rw [add_eq rfl]; simp [Nat.add_assoc]⟩
      · cases h
    · simp [hz] at h
  · cases h

theorem RelL_getD_drop {cs : List AV} {vs : List Value} (h : RelL S μ w cs vs) {k : Nat} {c : AV} {r : List AV} (hd : cs.drop k = c :: r) : ∃ x, vs[k]? = some x ∧ Rel S μ w c x := by
  have : cs[k]? = some c := by
    have := congrArg (fun l => l[0]?) hd
    simpa [List.getElem?_drop] using this
  exact RelL_get h this

theorem field_sound {t : TypeId} {av v : AV} {f : Nat} {p : List Prop} (h : aField P t av f = some (p, v)) {y : Value} (hr : Rel S μ w av y) :
    ∃ x, (Instr.field t y f).run P w = .ok x w ∧ Rel S μ w v x := by
  unfold aField at h
  split at h
  · rename_i fd cs hf
    obtain ⟨fs, hu, hfs⟩ := fieldOf_some hf
    obtain ⟨vs, rfl, hr⟩ := hr
    split at h
    · rename_i ht
      simp only [ok, Option.some.injEq, Prod.mk.injEq] at h
      obtain ⟨rfl, rfl⟩ := h
      obtain ⟨hagg, i, hi⟩ := aggT_true (w := w) ht
      have hs : (Go.sizeOf fd.type).run P w = .ok (P.cellsOf fd.type) w := by simp [Go.sizeOf, typeInfo, hi, Program.cellsOf]
      refine ⟨.agg ((vs.drop fd.offset).take (P.cellsOf fd.type)).toArray, ?_, _, rfl, RelL_take (RelL_drop hr _) _⟩
      simp only [Instr.field, asAgg, part, Go.underlying, Sem.run_bind, run_program, Result.andThen_ok, hu, Sem.run_pure, hfs, hagg, hs, if_true]
      congr 2
      simp [List.extract_eq_take_drop]
    · rename_i ht
      split at h
      · rename_i c r hd
        simp only [ok, Option.some.injEq, Prod.mk.injEq] at h
        obtain ⟨rfl, rfl⟩ := h
        obtain ⟨x, h1, h2⟩ := RelL_getD_drop hr hd
        refine ⟨x, ?_, h2⟩
        simp only [Instr.field, asAgg, part, Go.underlying, Sem.run_bind, run_program, Result.andThen_ok, hu, Sem.run_pure, hfs, aggT_false ht]
        simp [h1]
      · cases h
    · cases h
  · cases h

theorem indexAddr_sound {H : List AObj} (hH : HOK S μ w H) {t : TypeId} {ax ai v : AV} {p : List Prop} (h : aIndexAddr P H t ax ai = some (p, v)) (hp : ∀ q ∈ p, q) {x i : Value}
    (hx : Rel S μ w ax x) (hi : Rel S μ w ai i) : ∃ y, (Instr.indexAt t x i).run P w = .ok y w ∧ Rel S μ w v y := by
  unfold aIndexAddr at h
  split at h
  · rename_i e n esz cell kd k he
    have hu := elemOf_some he
    cases hi
    cases hb : Nat.beq esz (P.cellsOf e) && Nat.blt 0 esz
    · simp [hb] at h
    · simp only [hb, cond_true, okIf, Option.some.injEq, Prod.mk.injEq] at h
      obtain ⟨rfl, rfl⟩ := h
      simp only [Bool.and_eq_true] at hb
      have h1 := Nat.eq_of_beq_eq_true hb.1
      have h2 : 0 < esz := Nat.le_of_ble_eq_true hb.2
      have hk : 0 ≤ k ∧ k < (n : Int) := hp _ (by simp)
      obtain ⟨a, cap, rfl, _, hrow⟩ := hx
      rcases hrow with h0 | ⟨b, off, rfl, hrow⟩
      · omega
      · refine ⟨.pointer (some ⟨b, off + k.toNat * esz + 0, none⟩), ?_, b, off, rfl, hrow⟩
        simp only [Instr.indexAt, asIntOf, Go.underlying, Sem.run_bind, run_program, Result.andThen_ok, hu, Sem.run_pure]
        rw [if_pos hk]
        simp only [Sem.run_bind, run_sizeOf (P := P) (t := e) (by omega), Result.andThen_ok, Sem.run_pure, ← h1, add_eq]
        simp
  · rename_i e n esz cell kd k he
    have hu := elemOf_some he
    cases hi
    cases hb : Nat.beq esz (P.cellsOf e) && Nat.blt 0 esz
    · simp [hb] at h
    · simp only [hb, cond_true, okIf, Option.some.injEq, Prod.mk.injEq] at h
      obtain ⟨rfl, rfl⟩ := h
      simp only [Bool.and_eq_true] at hb
      have h1 := Nat.eq_of_beq_eq_true hb.1
      have h2 : 0 < esz := Nat.le_of_ble_eq_true hb.2
      have hk : 0 ≤ k ∧ k < (n : Int) := hp _ (by simp)
      obtain ⟨a, rfl, hrow⟩ := hx
      rcases hrow with h0 | ⟨b, off, rfl, hrow⟩
      · omega
      · refine ⟨.pointer (some ⟨b, off + k.toNat * esz + 0, none⟩), ?_, b, off, rfl, hrow⟩
        simp only [Instr.indexAt, asIntOf, Go.underlying, Sem.run_bind, run_program, Result.andThen_ok, hu, Sem.run_pure]
        rw [if_pos hk]
        simp only [Sem.run_bind, run_sizeOf (P := P) (t := e) (by omega), Result.andThen_ok, Sem.run_pure, ← h1, add_eq]
        simp
  · rename_i e o lo n kd k he
    have hu := elemOf_some he
    cases hi
    cases hb : Nat.beq (eszOf H o) (P.cellsOf e) && Nat.blt 0 (P.cellsOf e)
    · simp [hb] at h
    · simp only [hb, cond_true, okIf, Option.some.injEq, Prod.mk.injEq] at h
      obtain ⟨rfl, rfl⟩ := h
      simp only [Bool.and_eq_true] at hb
      have h1 := Nat.eq_of_beq_eq_true hb.1
      have h2 : 0 < P.cellsOf e := Nat.le_of_ble_eq_true hb.2
      have hk : 0 ≤ k ∧ k < (n : Int) := hp _ (by simp)
      have hesz : (μ o).esz = P.cellsOf e := by
        unfold eszOf at h1
        split at h1
        · rename_i m e' c hl; rw [← h1]; exact (hH.obj _ _ (H_getD hl (by simp))).1
        · rename_i m e' c hl; rw [← h1]; exact (hH.obj _ _ (H_getD hl (by simp))).1
        · omega
      unfold Rel at hx
      split at hx
      · omega
      · rename_i b hb
        obtain ⟨h3, a, rfl, h4⟩ := hx
        have ha := h4 (by omega)
        subst ha
        refine ⟨.pointer (some ⟨b, (μ o).base + (k.toNat + lo) * (μ o).esz + 0, none⟩), ?_, b, hb, by omega, rfl⟩
        simp only [Instr.indexAt, asIntOf, Go.underlying, Sem.run_bind, run_program, Result.andThen_ok, hu, Sem.run_pure]
        rw [if_pos hk]
        simp only [Sem.run_bind, run_sizeOf (P := P) (t := e) (by omega), Result.andThen_ok, Sem.run_pure, add_eq, hesz]
        congr 4
        rw [Nat.add_mul]; omega
  · cases h

theorem index_sound {t : TypeId} {ax ai v : AV} {p : List Prop} (h : aIndex P t ax ai = some (p, v)) (hp : ∀ q ∈ p, q) {x i : Value}
    (hx : Rel S μ w ax x) (hi : Rel S μ w ai i) : ∃ y, (Instr.index t x i).run P w = .ok y w ∧ Rel S μ w v y := by
  unfold aIndex at h
  split at h
  · rename_i s kd k hu
    simp only [okIf, Option.some.injEq, Prod.mk.injEq] at h
    obtain ⟨rfl, rfl⟩ := h
    have hk : 0 ≤ k ∧ k < (s.size : Int) := hp _ (by simp)
    cases hx; cases hi
    refine ⟨_, by rw [run_index_string _ _ _ _ _ hu, dif_pos hk], ?_⟩
    have hlt : k.toNat < s.size := by omega
    show Value.int IntKind.u8 _ = Value.int IntKind.u8 _
    congr 2
    have hlt' : k.toNat < s.data.size := hlt
    simp only [Array.getD, dif_pos hlt']
    rfl
  · cases h

theorem un_sound {op : UnOp} {a v : AV} {p : List Prop} (h : aUn op a = some (p, v)) {x : Value} (hx : Rel S μ w a x) : ∃ y, (Op.unary op x).run P w = .ok y w ∧ Rel S μ w v y := by
  unfold aUn at h
  split at h <;> simp only [ok, Option.some.injEq, Prod.mk.injEq, reduceCtorEq] at h
  · obtain ⟨rfl, rfl⟩ := h; cases hx; exact ⟨_, by simp [Op.unary, Op.intArith], rfl⟩
  · obtain ⟨rfl, rfl⟩ := h; cases hx; exact ⟨_, by simp [Op.unary], rfl⟩

theorem conv_sound {src dst : TypeId} {a v : AV} {p : List Prop} (h : aConv P src dst a = some (p, v)) {x : Value} (hx : Rel S μ w a x) : ∃ y, (convert src dst x).run P w = .ok y w ∧ Rel S μ w v y := by
  unfold aConv at h
  split at h
  · rename_i k1 k2 k3 n h1 h2
    simp only [ok, Option.some.injEq, Prod.mk.injEq] at h
    obtain ⟨rfl, rfl⟩ := h
    cases hx
    refine ⟨_, ?_, rfl⟩
    simp only [convert, Go.underlying, Sem.run_bind, run_program, Result.andThen_ok, h1, h2, Sem.run_pure, Conv.intToInt]
  · rename_i s h1 h2
    simp only [ok, Option.some.injEq, Prod.mk.injEq] at h
    obtain ⟨rfl, rfl⟩ := h
    cases hx
    refine ⟨_, ?_, rfl⟩
    simp only [convert, Go.underlying, Sem.run_bind, run_program, Result.andThen_ok, h1, h2, Sem.run_pure]
  · cases h

theorem ikIdx_inj {k k' : IntKind} (h : Nat.beq (ikIdx k) (ikIdx k') = true) : k = k' := by
  have := Nat.eq_of_beq_eq_true h
  cases k <;> cases k' <;> first | rfl | (simp [ikIdx] at this)

theorem run_guard {op : BinOp} {t : TypeId} {x y : Operand} {a b : Value} (ha : ∀ cs, a ≠ .agg cs) (hn : a ≠ .nilIface) : (eqGuard op t x y a b).run P w = .ok () w := by
  cases op <;> cases a <;> first | exact absurd rfl (ha _) | exact absurd rfl hn | rfl

theorem bif_some {α : Type} {c : Bool} {r : Option α} {x : α} (h : (bif c then r else none) = some x) : c = true ∧ r = some x := by
  cases c
  · simp at h
  · exact ⟨rfl, h⟩

theorem bin_sound {op : BinOp} {t : TypeId} {ox oy : Operand} {a b v : AV} {p : List Prop} (h : aBin P op t a b = some (p, v)) (hp : ∀ q ∈ p, q) {x y : Value} (hx : Rel S μ w a x) (hy : Rel S μ w b y) :
    ∃ z, ((do eqGuard op t ox oy x y; binOp op t x y : Sem Value)).run P w = .ok z w ∧ Rel S μ w v z := by
  have go : ∀ {z : Value}, (∀ cs, x ≠ .agg cs) → x ≠ .nilIface → (binOp op t x y).run P w = .ok z w → ((do eqGuard op t ox oy x y; binOp op t x y : Sem Value)).run P w = .ok z w := by
    intro z h1 h2 h3
    simp only [Sem.run_bind, run_guard h1 h2, Result.andThen_ok, h3]
  unfold aBin at h
  split at h
  iterate 3
    · rename_i k x k' y
      cases hx; cases hy
      cases hk : Nat.beq (ikIdx k) (ikIdx k')
      · simp [hk] at h
      simp only [hk] at h
      have hk := ikIdx_inj hk; subst hk
      simp only [cond_true, ok, Option.some.injEq, Prod.mk.injEq] at h
      obtain ⟨rfl, rfl⟩ := h
      exact ⟨_, go (by simp) (by simp) (by simp [binOp, Op.intArith]), rfl⟩
  iterate 2
    · rename_i k x k' y
      cases hx; cases hy
      cases hk : Nat.beq (ikIdx k) (ikIdx k')
      · simp [hk] at h
      simp only [hk] at h
      have hk := ikIdx_inj hk; subst hk
      simp only [cond_true, okIf, Option.some.injEq, Prod.mk.injEq] at h
      obtain ⟨rfl, rfl⟩ := h
      have hne := hp _ (List.mem_singleton.2 rfl)
      exact ⟨_, go (by simp) (by simp) (by simp [binOp, Op.intDiv, hne]), rfl⟩
  iterate 3
    · rename_i k x k' y
      cases hx; cases hy
      cases hk : Nat.beq (ikIdx k) (ikIdx k')
      · simp [hk] at h
      simp only [hk] at h
      have hk := ikIdx_inj hk; subst hk
      simp only [cond_true, ok, Option.some.injEq, Prod.mk.injEq] at h
      obtain ⟨rfl, rfl⟩ := h
      exact ⟨_, go (by simp) (by simp) (by simp [binOp, Op.intBits]), rfl⟩
  iterate 2
    · rename_i k x k' y
      cases hx; cases hy
      simp only [okIf, Option.some.injEq, Prod.mk.injEq] at h
      obtain ⟨rfl, rfl⟩ := h
      have hne : ¬ y < 0 := by have : 0 ≤ y := hp _ (List.mem_singleton.2 rfl); omega
      exact ⟨_, go (by simp) (by simp) (by simp [binOp, Op.shift, hne]), rfl⟩
  iterate 6
    · rename_i k x k' y
      cases hx; cases hy
      cases hk : Nat.beq (ikIdx k) (ikIdx k')
      · simp [hk] at h
      simp only [hk] at h
      have hk := ikIdx_inj hk; subst hk
      simp only [cond_true, ok, Option.some.injEq, Prod.mk.injEq] at h
      obtain ⟨rfl, rfl⟩ := h
      exact ⟨_, go (by simp) (by simp) (by simp [binOp, Op.intCmp]), rfl⟩
  · cases hx; cases hy
    simp only [okIf, Option.some.injEq, Prod.mk.injEq] at h
    obtain ⟨rfl, rfl⟩ := h
    have hle := hp _ (List.mem_singleton.2 rfl)
    refine ⟨_, go (by simp) (by simp) ?_, rfl⟩
    simp only [binOp, Op.stringOp]
    rw [if_neg (by simp only [IntKind.max, IntKind.signed, IntKind.bits]; simp; omega)]
    rfl
  iterate 6
    · cases hx; cases hy
      simp only [ok, Option.some.injEq, Prod.mk.injEq] at h
      obtain ⟨rfl, rfl⟩ := h
      exact ⟨_, go (by simp) (by simp) (by simp [binOp, Op.stringOp]), rfl⟩
  iterate 2
    · cases hx; cases hy
      split at h
      · rename_i hu
        simp only [ok, Option.some.injEq, Prod.mk.injEq] at h
        obtain ⟨rfl, rfl⟩ := h
        refine ⟨_, go (by simp) (by simp) ?_, rfl⟩
        simp [binOp, Op.equal, Op.maxDepth, run_equalIn_bool' w _ t _ _ hu]
      · cases h
  · cases h

end
end Cg
