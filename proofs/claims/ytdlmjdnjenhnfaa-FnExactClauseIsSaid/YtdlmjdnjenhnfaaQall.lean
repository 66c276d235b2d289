/-
  A quiet operation, whatever its kind, does in the model what the machine says. No condition.
-/
import Derived.Test.YtdlmjdnjenhnfaaCall
namespace Cg
open Go

/-- What a quiet operation does in the model. -/
def QRun (P : Program) (S : Nat → Prop) (μ : Nat → OI) (a : Act) (w : World) (o : Oper) (v : AV) : Prop :=
  (∃ y w' S', (execOp a.eval o).run P w = .ok (.value y) w' ∧ After S μ w v y w' S') ∨
  (∃ f args, (execOp a.eval o).run P w = .ok (.enter f args) w ∧ Calls P f args w (fun e w' => ∃ y S', e = .returned y ∧ After S μ w v y w' S'))

section
variable {P : Program} {S : Nat → Prop} {μ : Nat → OI} {w : World} {a : Act}

theorem After.same (hin : ∀ b, S b → b < w.heap.size) {v : AV} {y : Value} (h : Rel S μ w v y) : After S μ w v y w S := ⟨Ext.refl w, fun _ h => h, fun _ h => .inl h, hin, h⟩

theorem QRun.val {o : Oper} {v : AV} {y : Value} (hin : ∀ b, S b → b < w.heap.size) (hr : (execOp a.eval o).run P w = .ok (.value y) w) (h : Rel S μ w v y) : QRun P S μ a w o v :=
  .inl ⟨y, w, S, hr, After.same hin h⟩

theorem ok_inj {a : AV} {p : List Prop} {v : AV} (h : ok a = some (p, v)) : p = [] ∧ v = a := by
  simp only [ok, Option.some.injEq, Prod.mk.injEq] at h
  exact ⟨h.1.symm, h.2.symm⟩

theorem okIf_inj {q : Prop} {a : AV} {p : List Prop} {v : AV} (h : okIf q a = some (p, v)) : p = [q] ∧ v = a := by
  simp only [okIf, Option.some.injEq, Prod.mk.injEq] at h
  exact ⟨h.1.symm, h.2.symm⟩

theorem map_eval {α : Type} (l : List α) (f : α → AV) (g : α → Value) (h : ∀ x, Rel S μ w (f x) (g x)) : RelL S μ w (l.map f) (l.map g) := RelL_map l f g fun x _ => h x

theorem aCall_sound {Γ : Ctx} (hΓ : CtxOK P Γ) {H : List AObj} (hH : HOK S μ w H) {f : AV} {as : List AV} {v : AV} {p : List Prop} (h : aCall Γ H f as = some (p, v)) (hp : ∀ q ∈ p, q)
    {fy : Value} {xs : List Value} (hf : Rel S μ w f fy) (hx : RelL S μ w as xs) (o : Oper) (ho : ∃ c fo, o.op = .call c ∧ c.callee = .value fo ∧ a.eval fo = fy ∧ (c.args.map a.eval).toList = xs) : QRun P S μ a w o v := by
  obtain ⟨c, fo, hop, hcal, hfo, hargs⟩ := ho
  unfold aCall at h
  split at h
  · rename_i g caps
    obtain ⟨cv, rfl, hcaps⟩ := hf
    have hall := RelL_append hx hcaps
    have hrun : Callable P g → (execOp a.eval o).run P w = .ok (.enter g (xs ++ cv).toArray) w := by
      intro hc
      have e : (c.args.map a.eval) ++ cv.toArray = (xs ++ cv).toArray := by apply Array.ext'; simp [← hargs]
      have := callFunc_run (w := w) hc ((c.args.map a.eval) ++ cv.toArray)
      unfold execOp
      rw [hop]
      simp only [resolve, hcal, hfo, Deferred.ofValue, Sem.run_bind, Sem.run_pure, Result.andThen_ok, invoke, Array.empty_append]
      rw [this, e]
    split at h
    · rename_i F hl
      obtain ⟨hc, hs⟩ : Callable P g ∧ SoundF P g F := hΓ _ (lookC_some hl)
      split at h
      rename_i q vs hv
      split at h
      · rename_i p' r hF
        obtain ⟨hsc, h⟩ : isScalar r = true ∧ some (q ++ p', r) = some (p, v) := by
          cases hsc : isScalar r
          · simp [hsc] at h
          · simp only [hsc] at h; exact ⟨rfl, h⟩
        simp only [Option.some.injEq, Prod.mk.injEq] at h
        obtain ⟨rfl, rfl⟩ := h
        have hva := view_args hH (as := as ++ caps) (by rw [hv]; exact fun q' hq => hp q' (List.mem_append_left _ hq)) hall
        rw [hv] at hva
        refine .inr ⟨g, _, hrun hc, (hs _ _ _ hF (fun q' hq => hp q' (List.mem_append_right _ hq)) _ w _ (lent_lt hH) hva).mono fun e w' he => ?_⟩
        obtain ⟨y, S', rfl, h1, h2, h3, h4, h5⟩ := he
        exact ⟨y, S, rfl, h1, fun _ h => h, fun _ h => .inl h, fun b hb => Nat.lt_of_lt_of_le (hH.inS b hb) h1.size, scalar_any hsc h5⟩
      · cases h
    · rename_i F hl
      obtain ⟨hc, hs⟩ : Callable P g ∧ SoundF P g F := hΓ _ (lookC_some hl)
      cases him : immL (as ++ caps)
      · simp [him] at h
      simp only [him, cond_true] at h
      split at h
      · rename_i p' r hF
        cases hir : immA r
        · simp [hir] at h
        simp only [hir, cond_true, Option.some.injEq, Prod.mk.injEq] at h
        obtain ⟨rfl, rfl⟩ := h
        refine .inr ⟨g, _, hrun hc, (hs _ _ _ hF hp S w _ hH.inS (immL_rel him hall)).mono fun e w' he => ?_⟩
        obtain ⟨y, S', rfl, h1, h2, h3, h4, h5⟩ := he
        exact ⟨y, S', rfl, h1, h2, h3, h4, imm_rel hir h5⟩
      · cases h
    · cases h
  · cases h

theorem aq_sound {Γ : Ctx} (hΓ : CtxOK P Γ) {H : List AObj} (hH : HOK S μ w H) {fr : List AV} (hev : ∀ x, Rel S μ w (ev fr x) (a.eval x)) (o : Oper) {v : AV} {p : List Prop}
    (h : aq P Γ o.op fr H = some (p, v)) (hp : ∀ q ∈ p, q) : QRun P S μ a w o v := by
  have hin := hH.inS
  obtain ⟨dst, op, type, pos, after, guard⟩ := o
  simp only at h
  have lift : ∀ {s : Sem Value} {y : Value}, (∃ y, s.run P w = .ok y w ∧ Rel S μ w v y) → ((execOp a.eval ⟨dst, op, type, pos, after, guard⟩ = do pure (Next.value (← s)))) → QRun P S μ a w ⟨dst, op, type, pos, after, guard⟩ v := by
    intro s _ ⟨y, h1, h2⟩ he
    exact .val hin (by rw [he]; simp [h1]) h2
  cases op <;> simp only [aq] at h
  case move x => obtain ⟨_, rfl⟩ := ok_inj h; exact .val hin (y := a.eval x) (by simp [execOp]) (hev x)
  case assign x => obtain ⟨_, rfl⟩ := ok_inj h; exact .val hin (y := a.eval x) (by simp [execOp]) (hev x)
  case pick c x y =>
    have h1 := hev c
    unfold aPick at h
    split at h
    · rename_i hc
      obtain ⟨_, rfl⟩ := ok_inj h
      rw [hc] at h1
      have h1 : a.eval c = .bool true := h1
      exact .val hin (y := a.eval x) (by simp [execOp, h1, asBool]) (hev x)
    · rename_i hc
      obtain ⟨_, rfl⟩ := ok_inj h
      rw [hc] at h1
      have h1 : a.eval c = .bool false := h1
      exact .val hin (y := a.eval y) (by simp [execOp, h1, asBool]) (hev y)
    · cases h
  case build t parts =>
    split at h
    · rename_i fs z hu hz
      cases hall : fs.toList.all (fun f => (P.info? f.type).isSome)
      · simp [hall] at h
      simp only [hall, cond_true] at h
      split at h
      · rename_i cs hb
        obtain ⟨_, rfl⟩ := ok_inj h
        exact lift (y := undef) (build_sound hev hu hz hall hb) rfl
      · cases h
    · cases h
  case buildSlice t len parts =>
    split at h
    · rename_i e he
      split at h
      · rename_i z hz
        split at h
        · rename_i rows hb
          cases hc : Nat.beq z.length (P.cellsOf e) && Nat.blt 0 z.length && z.all isImm && z.all oneA && Nat.ble (len * P.cellsOf e) 16777216
          · simp [hc] at h
          simp only [hc, cond_true] at h
          obtain ⟨_, rfl⟩ := ok_inj h
          simp only [Bool.and_eq_true] at hc
          obtain ⟨y, w', h1, h2, h3, h4⟩ := buildSlice_sound hin hev he hz (Nat.eq_of_beq_eq_true hc.1.1.1.1) (blt_pos hc.1.1.1.2) hc.1.1.2 hc.1.2 (Nat.le_of_ble_eq_true hc.2) hb
          refine .inl ⟨y, w', _, by simp [execOp, h1], h2, fun _ h => .inl h, fun b hb => hb.imp id (by rintro rfl; exact Nat.le_refl _), fun b hb => ?_, h4⟩
          rcases hb with hb | rfl
          · have := hin b hb; omega
          · omega
        · cases h
      · cases h
    · cases h
  case load t x => exact lift (y := undef) (loadA_sound h hp hH (hev x)) rfl
  case nilCheck x =>
    have h1 := hev x
    split at h
    · rename_i hx; obtain ⟨_, rfl⟩ := ok_inj h; rw [hx] at h1; have h2 := h1; obtain ⟨b, _, h3⟩ := h1; rw [h3] at h2; exact .val hin (by simp [execOp, h3]) h2
    · rename_i hx; obtain ⟨_, rfl⟩ := ok_inj h; rw [hx] at h1; have h2 := h1; obtain ⟨b, o, h3, _⟩ := h1; rw [h3] at h2; exact .val hin (by simp [execOp, h3]) h2
    · rename_i hx; obtain ⟨_, rfl⟩ := ok_inj h; rw [hx] at h1; have h2 := h1; obtain ⟨b, _, _, h3⟩ := h1; rw [h3] at h2; exact .val hin (by simp [execOp, h3]) h2
    · cases h
  case binOp op t x y u => exact lift (y := undef) (bin_sound (ox := x) (oy := y) h hp (hev x) (hev y)) rfl
  case unOp op t x => exact lift (y := undef) (un_sound h (hev x)) rfl
  case convert s d x => exact lift (y := undef) (conv_sound h (hev x)) rfl
  case makeFunc fn first captured =>
    cases hf : first.isEmpty
    · simp [hf] at h
    simp only [hf, cond_true] at h
    obtain ⟨_, rfl⟩ := ok_inj h
    have : first = #[] := by simpa using hf
    subst this
    exact .val hin (y := .func fn #[] (captured.map a.eval)) (by simp [execOp, Instr.makeFunc]) ⟨captured.toList.map a.eval, by congr 1; apply Array.ext'; simp, map_eval _ _ _ hev⟩
  case slice t x lo hi mx =>
    refine lift (y := undef) (slice_sound hH h hp (asSl_sound (hev x)) (l' := lo.map a.eval) (h' := hi.map a.eval) (m' := mx.map a.eval) ?_ ?_ ?_ ?_ ?_ ?_) rfl
    · intro b hb; cases lo <;> simp at hb; subst hb; exact ⟨_, rfl, hev _⟩
    · intro hb; cases lo <;> simp at hb; rfl
    · intro b hb; cases hi <;> simp at hb; subst hb; exact ⟨_, rfl, hev _⟩
    · intro hb; cases hi <;> simp at hb; rfl
    · intro b hb; cases mx <;> simp at hb; subst hb; exact ⟨_, rfl, hev _⟩
    · intro hb; cases mx <;> simp at hb; rfl
  case fieldAddr t x f => exact lift (y := undef) (fieldAddr_sound h (hev x)) rfl
  case field t x f => exact lift (y := undef) (field_sound h (hev x)) rfl
  case indexAddr t x i => exact lift (y := undef) (indexAddr_sound hH h hp (hev x) (hev i)) rfl
  case index t x i => exact lift (y := undef) (index_sound h hp (hev x) (hev i)) rfl
  case extract t i =>
    have h1 := hev t
    split at h
    · rename_i cs ht
      rw [ht] at h1
      obtain ⟨vs, h2, h3⟩ := h1
      split at h
      · rename_i b hb
        obtain ⟨_, rfl⟩ := ok_inj h
        obtain ⟨y, h4, h5⟩ := RelL_get h3 hb
        exact .val hin (y := y) (by simp [execOp, h2, Instr.extract, h4]) h5
      · cases h
    · cases h
  case call c =>
    have hargs : RelL S μ w (c.args.toList.map (ev fr)) (c.args.map a.eval).toList := by rw [Array.toList_map]; exact map_eval _ _ _ hev
    split at h
    · rename_i b hb
      obtain ⟨y, h1, h2⟩ := builtin_sound type h hargs
      refine .val hin (y := y) ?_ h2
      have e : (c.args.map a.eval).toList.toArray = c.args.map a.eval := by apply Array.ext'; simp
      rw [e] at h1
      unfold execOp
      simp only [resolve, hb, Sem.run_bind, Sem.run_pure, Result.andThen_ok, invoke, h1]
    · rename_i f hf
      exact aCall_sound hΓ hH h hp (hev f) hargs _ ⟨c, f, rfl, hf, rfl, rfl⟩
    · cases h
  all_goals cases h

/-! ### Names in what a quiet operation yields -/

theorem relI_ment {k : Nat} {a : AV} {y : Value} (h : RelI S w a y) : ment k a = false := by
  cases a <;> first | rfl | exact h.elim

theorem cellsAt_ment {H : List AObj} {av : AV} {n : Nat} {p : List Prop} {cs : List AV} (h : cellsAt H av n = some (p, cs)) (hp : ∀ q ∈ p, q) (hH : HOK S μ w H) {y : Value} (hr : Rel S μ w av y)
    {k : Nat} (hk : H.length ≤ k) : mentL k cs = false := by
  unfold cellsAt at h
  split at h
  · rename_i o off
    split at h
    · rename_i l hl
      have hl := H_getD hl (by simp)
      cases hb : Nat.ble (off + n) l.length
      · simp [hb] at h
      · simp only [hb, cond_true, Option.some.injEq, Prod.mk.injEq] at h
        obtain ⟨rfl, rfl⟩ := h
        exact mentL_take (mentL_drop (hH.ids _ _ hl k hk) _) _
    · cases h
  · rename_i m esz cell i off
    cases hb : Nat.ble (off + n) esz
    · simp [hb] at h
    · simp only [hb, cond_true, Option.some.injEq, Prod.mk.injEq] at h
      obtain ⟨rfl, rfl⟩ := h
      have hb' := Nat.le_of_ble_eq_true hb
      have hi : i < m := hp _ (by simp)
      obtain ⟨b, o, rfl, _, c, T, fr, hc, hx⟩ := hr
      refine mentL_of fun a ha => ?_
      obtain ⟨j, hj⟩ := List.getElem?_of_mem ha
      have hjn : j < n := by
        have := (List.getElem?_eq_some_iff.1 hj).1
        rwa [rangeCells_length] at this
      rw [rangeCells_get _ _ _ _ hjn] at hj
      cases hj
      obtain ⟨x, h1, h2⟩ := hx i hi (off + j) (by omega)
      exact relI_ment h2
  · rename_i o i off
    obtain ⟨b, hμ, _, rfl⟩ := hr
    split at h
    · rename_i m esz cell hl
      have hl := H_getD hl (by simp)
      cases hb : Nat.ble (off + n) esz
      · simp [hb] at h
      · simp only [hb, cond_true, Option.some.injEq, Prod.mk.injEq] at h
        obtain ⟨rfl, rfl⟩ := h
        have hb' := Nat.le_of_ble_eq_true hb
        have hi : i < m := hp _ (by simp)
        obtain ⟨he, ho⟩ := hH.obj _ _ hl
        rw [hμ] at ho
        obtain ⟨_, c, T, hc, _, hx⟩ := ho
        refine mentL_of fun a ha => ?_
        obtain ⟨j, hj⟩ := List.getElem?_of_mem ha
        have hjn : j < n := by
          have := (List.getElem?_eq_some_iff.1 hj).1
          rwa [rangeCells_length] at this
        rw [rangeCells_get _ _ _ _ hjn] at hj
        cases hj
        obtain ⟨x, h1, h2⟩ := hx i hi (off + j) (by omega)
        exact relI_ment h2
    · rename_i m esz cell hl
      have hl := H_getD hl (by simp)
      cases hb : Nat.ble (off + n) esz
      · simp [hb] at h
      · simp only [hb, cond_true, Option.some.injEq, Prod.mk.injEq] at h
        obtain ⟨rfl, rfl⟩ := h
        have hb' := Nat.le_of_ble_eq_true hb
        have hi : i < m := hp _ (by simp)
        obtain ⟨he, ho⟩ := hH.obj _ _ hl
        rw [hμ] at ho
        obtain ⟨_, _, c, T, fr, hc, hx⟩ := ho
        refine mentL_of fun a ha => ?_
        obtain ⟨j, hj⟩ := List.getElem?_of_mem ha
        have hjn : j < n := by
          have := (List.getElem?_eq_some_iff.1 hj).1
          rwa [rangeCells_length] at this
        rw [rangeCells_get _ _ _ _ hjn] at hj
        cases hj
        obtain ⟨x, h1, h2⟩ := hx i hi (off + j) (by omega)
        exact relI_ment h2
    · cases h
  · cases h

theorem buildA_ment {k : Nat} {fs : Array Field} : ∀ (ps : List (Nat × AV)) (cs cs' : List AV), buildA P fs cs ps = some cs' → mentL k cs = false → (∀ q, q ∈ ps → ment k q.2 = false) → mentL k cs' = false
  | [], cs, cs', h, hc, _ => by simp only [buildA, Option.some.injEq] at h; subst h; exact hc
  | (i, a) :: ps, cs, cs', h, hc, hps => by
    unfold buildA at h
    split at h
    · rename_i f vs hf hv
      obtain ⟨_, h⟩ : (Nat.beq vs.length (P.cellsOf f.type) && Nat.ble (f.offset + vs.length) cs.length) = true ∧ buildA P fs (fillA cs f.offset vs) ps = some cs' := by
        cases ht : Nat.beq vs.length (P.cellsOf f.type) && Nat.ble (f.offset + vs.length) cs.length
        · simp [ht] at h
        · simp only [ht] at h; exact ⟨rfl, h⟩
      have hvs := ment_cells hv (hps (i, a) (by simp))
      refine buildA_ment ps _ _ h ?_ (fun q hq => hps q (by simp [hq]))
      refine mentL_of fun b hb => ?_
      obtain ⟨j, hj⟩ := List.getElem?_of_mem hb
      rw [(fillA_spec vs cs f.offset).2 j] at hj
      split at hj
      · exact mentL_get hvs hj
      · exact mentL_get hc hj
    · cases h

theorem zero_ment {k : Nat} {t : TypeId} {z : List AV} (h : zeroCells P t = some z) : mentL k z = false := by
  obtain ⟨_, v, _, _, hc⟩ := zeroCells_some h
  exact ment_cells hc (ment_ofConst k v)

theorem mentL_map_ev {k : Nat} {fr : List AV} (h : mentL k fr = false) (l : List Operand) : mentL k (l.map (ev fr)) = false :=
  mentL_of fun a ha => by obtain ⟨x, _, rfl⟩ := List.mem_map.1 ha; exact ment_ev h x

theorem imm_ment {k : Nat} {a : AV} (h : immA a = true) : ment k a = false := by
  have one : ∀ a, isImm a = true → ment k a = false := fun a ha => by cases a <;> first | rfl | simp [isImm] at ha
  unfold immA at h
  split at h
  · exact mentL_of fun a ha => one a (List.all_eq_true.1 h a ha)
  · exact mentL_of fun a ha => one a (List.all_eq_true.1 h a ha)
  · refine mentL_of fun a ha => ?_
    have := List.all_eq_true.1 h a ha
    split at this
    · rfl
    · exact one a this
  · rfl
  · exact one _ h

theorem aq_ment {Γ : Ctx} {H : List AObj} (hH : HOK S μ w H) {fr : List AV} (hev : ∀ x, Rel S μ w (ev fr x) (a.eval x)) {op : Op} {v : AV} {p : List Prop}
    (h : aq P Γ op fr H = some (p, v)) (hp : ∀ q ∈ p, q) {k : Nat} (hk : H.length ≤ k) (hf : mentL k fr = false) : ment k v = false := by
  cases op <;> simp only [aq] at h
  case move x => obtain ⟨_, rfl⟩ := ok_inj h; exact ment_ev hf x
  case assign x => obtain ⟨_, rfl⟩ := ok_inj h; exact ment_ev hf x
  case pick c x y =>
    unfold aPick at h
    split at h
    · obtain ⟨_, rfl⟩ := ok_inj h; exact ment_ev hf x
    · obtain ⟨_, rfl⟩ := ok_inj h; exact ment_ev hf y
    · cases h
  case build t parts =>
    split at h
    · rename_i fs z hu hz
      cases hall : fs.toList.all (fun f => (P.info? f.type).isSome)
      · simp [hall] at h
      simp only [hall, cond_true] at h
      split at h
      · rename_i cs hb
        obtain ⟨_, rfl⟩ := ok_inj h
        refine buildA_ment _ _ _ hb (zero_ment hz) (fun q hq => ?_)
        unfold pairsA at hq
        obtain ⟨⟨i, x⟩, _, rfl⟩ := List.mem_map.1 hq
        exact ment_ev hf x
      · cases h
    · cases h
  case buildSlice t len parts =>
    split at h
    · split at h
      · split at h
        · obtain ⟨_, rfl⟩ := ok_inj (bif_some h).2
          rfl
        · cases h
      · cases h
    · cases h
  case load t x =>
    unfold loadA at h
    split at h
    · split at h
      · rename_i q cs hc
        simp only [Option.some.injEq, Prod.mk.injEq] at h
        obtain ⟨rfl, rfl⟩ := h
        exact cellsAt_ment hc hp hH (hev x) hk
      · cases h
    · split at h
      · rename_i q c hc
        simp only [Option.some.injEq, Prod.mk.injEq] at h
        obtain ⟨rfl, rfl⟩ := h
        have := cellsAt_ment hc hp hH (hev x) hk
        simp only [mentL, Bool.or_false] at this
        exact this
      · cases h
    · cases h
  case nilCheck x =>
    have h1 := ment_ev hf x
    split at h
    · rename_i hx; obtain ⟨_, rfl⟩ := ok_inj h; rw [hx] at h1; exact h1
    · obtain ⟨_, rfl⟩ := ok_inj h; rfl
    · rename_i hx; obtain ⟨_, rfl⟩ := ok_inj h; rw [hx] at h1; exact h1
    · cases h
  case binOp op t x y u =>
    have : ∃ z, v = .v z := by
      unfold aBin at h
      split at h <;> first
        | (cases h; done)
        | exact ⟨_, (ok_inj (bif_some h).2).2⟩
        | exact ⟨_, (okIf_inj (bif_some h).2).2⟩
        | exact ⟨_, (ok_inj h).2⟩
        | exact ⟨_, (okIf_inj h).2⟩
        | (split at h <;> first | (cases h; done) | exact ⟨_, (ok_inj h).2⟩)
    obtain ⟨z, rfl⟩ := this
    rfl
  case unOp op t x =>
    unfold aUn at h
    split at h
    · obtain ⟨_, rfl⟩ := ok_inj h; rfl
    · obtain ⟨_, rfl⟩ := ok_inj h; rfl
    · cases h
  case convert s d x =>
    unfold aConv at h
    split at h
    · obtain ⟨_, rfl⟩ := ok_inj h; rfl
    · obtain ⟨_, rfl⟩ := ok_inj h; rfl
    · cases h
  case makeFunc fn first captured =>
    cases hf' : first.isEmpty
    · simp [hf'] at h
    simp only [hf', cond_true] at h
    obtain ⟨_, rfl⟩ := ok_inj h
    exact mentL_map_ev hf _
  case slice t x lo hi mx =>
    have h1 := ment_ev hf x
    have h2 : ment k (asSl (ev fr x)) = false := by
      unfold asSl; split
      · rfl
      · exact h1
    have : (∃ n e c, v = .sl n e c) ∨ (∃ s, v = .v s) ∨ v = nilA ∨ ∃ o l n l' n', v = .osl o l n ∧ asSl (ev fr x) = .osl o l' n' := by
      unfold aSlice at h
      split at h
      · split at h
        · simp only [okIf, Option.some.injEq, Prod.mk.injEq] at h; exact .inr (.inl ⟨_, h.2.symm⟩)
        · simp only [okIf, Option.some.injEq, Prod.mk.injEq] at h; exact .inr (.inl ⟨_, h.2.symm⟩)
        · simp only [okIf, Option.some.injEq, Prod.mk.injEq] at h; exact .inr (.inl ⟨_, h.2.symm⟩)
        · exact .inl ⟨_, _, _, (okIf_inj (bif_some h).2).2⟩
        · exact .inl ⟨_, _, _, (okIf_inj (bif_some h).2).2⟩
        · exact .inl ⟨_, _, _, (okIf_inj (bif_some h).2).2⟩
        · exact .inr (.inr (.inr ⟨_, _, _, _, _, (okIf_inj (bif_some h).2).2, by assumption⟩))
        · exact .inr (.inr (.inr ⟨_, _, _, _, _, (okIf_inj (bif_some h).2).2, by assumption⟩))
        · exact .inr (.inr (.inr ⟨_, _, _, _, _, (okIf_inj (bif_some h).2).2, by assumption⟩))
        · cases h
      · split at h
        · exact .inr (.inr (.inl (okIf_inj (bif_some h).2).2))
        · cases h
    rcases this with ⟨_, _, _, rfl⟩ | ⟨_, rfl⟩ | rfl | ⟨o, _, _, _, _, rfl, he⟩
    · rfl
    · rfl
    · rfl
    · rw [he] at h2; exact h2
  case fieldAddr t x f =>
    have h1 := ment_ev hf x
    unfold aFieldAddr at h
    split at h
    · rename_i fd _
      cases hz : Nat.beq (P.cellsOf fd.type) 0
      · simp only [hz, cond_false] at h
        split at h
        · rename_i hx; obtain ⟨_, rfl⟩ := ok_inj h; rw [hx] at h1; exact h1
        · obtain ⟨_, rfl⟩ := ok_inj h; rfl
        · rename_i hx; obtain ⟨_, rfl⟩ := ok_inj h; rw [hx] at h1; exact h1
        · cases h
      · simp [hz] at h
    · cases h
  case field t x f =>
    have h1 := ment_ev hf x
    unfold aField at h
    split at h
    · rename_i fd cs _ hx
      rw [hx] at h1
      split at h
      · obtain ⟨_, rfl⟩ := ok_inj h; exact mentL_take (mentL_drop h1 _) _
      · split at h
        · rename_i c r hd; obtain ⟨_, rfl⟩ := ok_inj h; exact mentL_mem (mentL_drop h1 _) (by rw [hd]; simp)
        · cases h
      · cases h
    · cases h
  case indexAddr t x i =>
    have h1 := ment_ev hf x
    unfold aIndexAddr at h
    split at h
    · obtain ⟨_, rfl⟩ := okIf_inj (bif_some h).2; rfl
    · obtain ⟨_, rfl⟩ := okIf_inj (bif_some h).2; rfl
    · rename_i hx _; obtain ⟨_, rfl⟩ := okIf_inj (bif_some h).2; rw [hx] at h1; exact h1
    · cases h
  case index t x i =>
    unfold aIndex at h
    split at h
    · simp only [okIf, Option.some.injEq, Prod.mk.injEq] at h; obtain ⟨_, rfl⟩ := h; rfl
    · cases h
  case extract t i =>
    have h1 := ment_ev hf t
    split at h
    · rename_i cs ht
      rw [ht] at h1
      split at h
      · rename_i b hb; obtain ⟨_, rfl⟩ := ok_inj h; exact mentL_get h1 hb
      · cases h
    · cases h
  case call c =>
    split at h
    · have : ∃ z, v = .v z := by
        unfold aBuiltin at h
        split at h
        · unfold aLen at h; split at h <;> first | (cases h; done) | exact ⟨_, (ok_inj h).2⟩
        · unfold aCap at h; split at h <;> first | (cases h; done) | exact ⟨_, (ok_inj h).2⟩
        · exact ⟨_, (ok_inj (bif_some h).2).2⟩
        · exact ⟨_, (ok_inj (bif_some h).2).2⟩
        · cases h
      obtain ⟨z, rfl⟩ := this
      rfl
    · unfold aCall at h
      split at h
      · split at h
        · split at h
          split at h
          · rename_i p' r hF
            cases hsc : isScalar r <;> simp [hsc] at h
            obtain ⟨_, rfl⟩ := h
            exact scalar_ment hsc
          · cases h
        · have h := (bif_some h).2
          split at h
          · obtain ⟨hir, h⟩ := bif_some h
            simp only [Option.some.injEq, Prod.mk.injEq] at h
            obtain ⟨_, rfl⟩ := h
            exact imm_ment hir
          · cases h
        · cases h
      · cases h
    · cases h
  all_goals cases h

end
end Cg
