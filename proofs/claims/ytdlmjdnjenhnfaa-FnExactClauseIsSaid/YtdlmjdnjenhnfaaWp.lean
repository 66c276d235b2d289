/-
  From the machine's operations to the model's weakest preconditions. No condition.
-/
import Derived.Test.YtdlmjdnjenhnfaaStep
namespace Cg
open Go

/-- A state of the model that fits one of the machine's. -/
def G (E : Ent) (st : St) (a : Act) (w : World) : Prop := ∃ S μ, Good E st a w S μ

section
variable {P : Program} {E : Ent} {st : St} {a : Act} {w : World} {base : Nat}

theorem wp_of_q {S : Nat → Prop} {μ : Nat → OI} (g : Good E st a w S μ) (o : Oper) {v : AV} {next : Act → World → Prop} {Q : Exit → Act → World → Prop} (hq : QRun P S μ a w o v) (hm : ∀ k, st.H.length ≤ k → ment k v = false)
    (hn : ∀ a' w', G E (st.put o.dst v) a' w' → next a' w') : o.wp P a w next Q := by
  have fin : ∀ y w' S', After S μ w v y w' S' → next (a.put o.dst y) w' := fun y w' S' ⟨h1, h2, h3, h4, h5⟩ => hn _ _ ⟨S', μ, (g.ext h1 h2 h3 h4).put o.dst h5 hm⟩
  unfold Oper.wp
  rcases hq with ⟨y, w', S', hr, ha⟩ | ⟨f, args, hr, hc⟩
  · rw [hr]; exact fin y w' S' ha
  · rw [hr]
    refine hc.mono fun e w' he => ?_
    obtain ⟨y, S', rfl, ha⟩ := he
    exact fin y w' S' ha

theorem wp_of_e (o : Oper) {K : AV → St → Prop} {next : Act → World → Prop} {Q : Exit → Act → World → Prop} {s : Sem Value} (he : execOp a.eval o = do pure (Next.value (← s))) (hE : ERun E a K (s.run P w))
    (hn : ∀ v st' a' w', K v st' → G E (st'.put o.dst v) a' w' → next a' w') : o.wp P a w next Q := by
  obtain ⟨y, w', v, st', S', μ', hr, hK, hg, hR, hm⟩ := hE
  unfold Oper.wp
  rw [he]
  simp only [Sem.run_bind, hr, Result.andThen_ok, Sem.run_pure]
  exact hn v st' _ _ hK ⟨S', μ', hg.put o.dst hR hm⟩

/-- A callee that works on what the caller owns. -/
theorem wp_of_call {S : Nat → Prop} {μ : Nat → OI} (g : Good E st a w S μ) (o : Oper) {f : FuncId} {as : List AV} {xs : List Value} {K : AV → St → Prop} {next : Act → World → Prop} {Q : Exit → Act → World → Prop}
    (hr : (execOp a.eval o).run P w = .ok (.enter f xs.toArray) w) (hx : RelL S μ w as xs) (hm : ∀ k, st.H.length ≤ k → mentL k as = false) (hc : ACalls P f as st.H fun v H => K v { st with H := H })
    (hn : ∀ v st' a' w', K v st' → G E (st'.put o.dst v) a' w' → next a' w') : o.wp P a w next Q := by
  unfold Oper.wp
  rw [hr]
  refine (hc S μ w xs g.hok hm hx).mono fun e w' he => ?_
  obtain ⟨y, v, H', S', μ', rfl, hK, hevo, hmv, hR⟩ := he
  have hSb : ∀ b, S b → w'.heap[b]? = w.heap[b]? := fun b hb => hevo.kept.block b (g.hok.inS b hb) fun ⟨o', h1, h2⟩ => (g.hok.own o' b h1 h2).1 hb
  have g' : Good E { st with H := H' } a w' S' μ' :=
    { defers := g.defers
      fr := RelL_mono hevo.sub hSb _ _ (fun k hk => hevo.mu k (by
        rcases Nat.lt_or_ge k st.H.length with h | h
        · exact h
        · rw [g.ids k h] at hk; cases hk)) g.fr
      ids := fun k hk => g.ids k (Nat.le_trans hevo.len hk)
      hok := hevo.hok
      sub := fun b hb => hevo.sub b (g.sub b hb)
      new := fun b hb => by
        rcases hevo.new b hb with h | h | ⟨o', h1, h2⟩
        · exact g.new b h
        · exact .inr (.inl (Nat.le_trans g.kept.size h))
        · exact .inr (g.mine o' b h1 h2)
      mu := fun k hk => (hevo.mu k (Nat.lt_of_lt_of_le hk g.len)).trans (g.mu k hk)
      len := Nat.le_trans g.len hevo.len
      kept := ⟨hevo.kept.os.trans g.kept.os, hevo.kept.tape.trans g.kept.tape, hevo.kept.output.trans g.kept.output, Nat.le_trans g.kept.size hevo.kept.size, fun b hb hn => by
        rw [hevo.kept.block b (Nat.lt_of_lt_of_le hb g.kept.size) fun ⟨o', h1, h2⟩ => ?_]
        · exact g.kept.block b hb hn
        · rcases g.mine o' b h1 h2 with h | h
          · omega
          · exact hn h⟩
      mine := fun k b hk hb => by
        rcases hevo.mine k b hk hb with h | ⟨o', h1, h2⟩
        · exact .inl (Nat.le_trans g.kept.size h)
        · exact g.mine o' b h1 h2 }
  exact hn v _ _ _ hK ⟨S', μ', g'.put o.dst hR hmv⟩

theorem wp_of_aq {Γ : Ctx} (hΓ : CtxOK P Γ) (hg : G E st a w) (o : Oper) {v : AV} {p : List Prop} {next : Act → World → Prop} {Q : Exit → Act → World → Prop} (h : aq P Γ o.op st.fr st.H = some (p, v)) (hp : ∀ q ∈ p, q)
    (hn : ∀ a' w', G E (st.put o.dst v) a' w' → next a' w') : o.wp P a w next Q := by
  obtain ⟨S, μ, g⟩ := hg
  exact wp_of_q g o (aq_sound hΓ g.hok g.ev o h hp) (fun k hk => aq_ment g.hok g.ev h hp hk (g.ids k hk)) hn

theorem aop_sound {Γ : Ctx} (hΓ : CtxOK P Γ) (hb : E.H.length ≤ base) (hg : G E st a w) (o : Oper) {K : AV → St → Prop} {next : Act → World → Prop} {Q : Exit → Act → World → Prop} (h : aop P Γ base o.op st K)
    (hn : ∀ v st' a' w', K v st' → G E (st'.put o.dst v) a' w' → next a' w') : o.wp P a w next Q := by
  have quiet : (match aq P Γ o.op st.fr st.H with | some (p, v) => need p (K v st) | none => False) → o.wp P a w next Q := fun h => by
    split at h
    · rename_i p v hq
      obtain ⟨hp, hK⟩ := need_elim h
      exact wp_of_aq hΓ hg o hq hp (fun a' w' => hn v st a' w' hK)
    · exact h.elim
  obtain ⟨dst, op, type, pos, after, guard⟩ := o
  obtain ⟨S, μ, g⟩ := hg
  cases op <;> simp only [aop] at h <;> (try exact quiet h)
  case alloc t =>
    split at h
    · rename_i z hz
      cases ho : z.all oneA
      · simp [ho] at h
      simp only [ho, cond_true] at h
      exact wp_of_e _ rfl (alloc_sound g hz ho h) hn
    · exact h.elim
  case box t x =>
    split at h
    · rename_i vs hc
      cases ho : vs.all oneA
      · simp [ho] at h
      simp only [ho, cond_true] at h
      exact wp_of_e _ rfl (box_sound g hc ho h) hn
    · exact h.elim
  case store t x y =>
    split at h
    · rename_i vs hc
      cases hl : Nat.beq vs.length (P.cellsOf t) && Nat.blt 0 vs.length
      · simp [hl] at h
      simp only [hl, cond_true] at h
      simp only [Bool.and_eq_true] at hl
      have hl1 := beq_iff.1 hl.1
      have hl2 := blt_iff.1 hl.2
      obtain ⟨w', st', S', μ', hr, hK, g'⟩ := store_sound g (g.ev x) (Rel_cells hc (g.ev y)) (fun k hk => ment_cells hc (g.ment y k hk)) hl1 (by omega) h
      unfold Oper.wp
      have : (execOp a.eval ⟨dst, .store t x y, type, pos, after, guard⟩).run P w = .ok .skip w' := by simp [execOp, hr]
      rw [this]
      exact hn (.v undef) st' _ _ hK ⟨S', μ', g'.put dst rfl (fun _ _ => rfl)⟩
    · exact h.elim
  case makeSlice t l c =>
    split at h
    · rename_i e kl l' kc c' he hl hc
      split at h
      · rename_i z hz
        cases hz' : Nat.beq z.length (P.cellsOf e) && Nat.blt 0 z.length && z.all isImm && z.all oneA
        · simp [hz'] at h
        simp only [hz', cond_true] at h
        simp only [Bool.and_eq_true] at hz'
        obtain ⟨h0, h1, h2, h3, hK⟩ := h
        have e1 : a.eval l = .int kl l' := by have := g.ev l; rw [hl] at this; exact this
        have e2 : a.eval c = .int kc c' := by have := g.ev c; rw [hc] at this; exact this
        exact wp_of_e _ (s := Instr.makeSlice t (.int kl l') (.int kc c')) (by simp [execOp, e1, e2]) (make_sound g he hz (beq_iff.1 hz'.1.1.1) (blt_iff.1 hz'.1.1.2) hz'.1.2 hz'.2 h0 h1 h2 h3 hK) hn
      · exact h.elim
    · exact h.elim
  case call c =>
    split at h
    · rename_i hcal
      split at h
      · rename_i t t' x y hts hargs
        split at h
        · rename_i e he
          split at h
          · rename_i z hz
            cases hz' : Nat.beq t t' && Nat.beq z.length (P.cellsOf e) && Nat.blt 0 z.length && Nat.blt 0 (P.bytesOf e)
            · simp [hz'] at h
            simp only [hz', cond_true] at h
            simp only [Bool.and_eq_true] at hz'
            have ht := beq_iff.1 hz'.1.1.1
            subst ht
            have hE := append_sound g hb type he hz (beq_iff.1 hz'.1.1.2) (blt_iff.1 hz'.1.2) (blt_iff.1 hz'.2) (g.ev x) (g.ev y) (g.ment x) h
            refine wp_of_e _ ?_ hE hn
            have h1 : c.argTypes = #[t, t] := by apply Array.ext'; simpa using hts
            have h2 : c.args = #[x, y] := by apply Array.ext'; simpa using hargs
            unfold execOp
            simp only [resolve, hcal, h1, h2]
            simp [invoke, builtin]
          · exact h.elim
        · exact h.elim
      · exact h.elim
    · rename_i f hcal
      split at h
      · rename_i g' caps hf
        split at h
        · rename_i T hl
          obtain ⟨hcl, hs⟩ : Callable P g' ∧ SoundE P g' T := hΓ _ (lookC_some hl)
          have hfv := g.ev f
          rw [hf] at hfv
          obtain ⟨cv, hfe, hcaps⟩ := hfv
          have hargs : RelL S μ w (c.args.toList.map (Cg.ev st.fr)) (c.args.map a.eval).toList := by rw [Array.toList_map]; exact map_eval _ _ _ g.ev
          refine wp_of_call g _ (f := g') (xs := (c.args.map a.eval).toList ++ cv) ?_ (RelL_append hargs hcaps) (fun k hk => mentL_append (mentL_map_ev (g.ids k hk) _) ?_) (hs _ _ _ h) hn
          · have e : (c.args.map a.eval) ++ cv.toArray = ((c.args.map a.eval).toList ++ cv).toArray := by apply Array.ext'; simp
            have := callFunc_run (w := w) hcl ((c.args.map a.eval) ++ cv.toArray)
            unfold execOp
            simp only [resolve, hcal, hfe, Deferred.ofValue, Sem.run_bind, Sem.run_pure, Result.andThen_ok, invoke, Array.empty_append]
            rw [this, e]
          · have := g.ment f k hk
            rw [hf] at this
            exact this
        · exact quiet h
      · exact quiet h
    · exact quiet h

end
end Cg
