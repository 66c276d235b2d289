/-
  Regions: in the text's order, and in whatever order is drawn. No condition.
-/
import Derived.Test.YtdlmjdnjenhnfaaWp
namespace Cg
open Go

section
variable {P : Program} {E : Ent} {base : Nat} {Γ : Ctx} {ops : Array Oper}

/-- Is an operation wanted, as far as the machine knows? -/
def wantedA (ops : Array Oper) (o : Oper) (s : St) : Option Bool := match o.guard with
  | none => some true
  | some (j, want) => match guardSlot ops j with
    | some d => match s.fr.getD d .any with
      | .v (.bool c) => some (c == want)
      | .v (.tuple _) => some false
      | _ => none
    | none => none

theorem put_same {s : St} {d : Nat} {v : AV} (h : s.fr[d]? = some v) : s.put (some d) v = s := by
  have hd := (List.getElem?_eq_some_iff.1 h)
  obtain ⟨hlt, he⟩ := hd
  unfold St.put
  have : s.fr.set d v = s.fr := by rw [← he]; exact List.set_getElem_self hlt
  simp only [this]

theorem getD_v {fr : List AV} {d : Nat} {x : Value} (h : fr.getD d .any = .v x) : fr[d]? = some (.v x) := by
  rw [List.getD_eq_getElem?_getD] at h
  cases hd : fr[d]? with
  | none => rw [hd] at h; simp at h
  | some a => rw [hd] at h; simp at h; rw [h]

/-- What the machine knows of a guard holds in the model. -/
theorem wanted_of {st : St} {a : Act} {w : World} (hg : G E st a w) {o : Oper} {b : Bool} (h : wantedA ops o st = some b) : Region.wanted o (yielded ops a.tmps) = b := by
  obtain ⟨S, μ, g⟩ := hg
  unfold wantedA at h
  unfold Region.wanted
  split at h
  · rename_i hn; rw [hn]; simpa using h
  · rename_i j want hn
    rw [hn]
    split at h
    · rename_i d hd
      have hj : ∃ oj, ops[j]? = some oj ∧ oj.dst = some d := by
        unfold guardSlot at hd
        split at hd
        · rename_i oj hoj; exact ⟨oj, hoj, hd⟩
        · cases hd
      obtain ⟨oj, hoj, hdst⟩ := hj
      split at h
      · rename_i c hc
        obtain ⟨y, h1, h2⟩ := RelL_get g.fr (getD_v hc)
        cases h2
        have : yielded ops a.tmps j = some c := by
          unfold yielded
          rw [hoj]
          simp only [Option.bind_some, hdst]
          rw [← Array.getElem?_toList, h1]
        simp only [this]
        simpa using h
      · rename_i c hc
        obtain ⟨y, h1, h2⟩ := RelL_get g.fr (getD_v hc)
        cases h2
        have : yielded ops a.tmps j = none := by
          unfold yielded
          rw [hoj]
          simp only [Option.bind_some, hdst]
          rw [← Array.getElem?_toList, h1]
        simp only [this]
        simpa using h
      · cases h
    · cases h

theorem G.put_undef {st : St} {a : Act} {w : World} (hg : G E st a w) (d : Option Tmp) : G E (st.put d (.v undef)) (a.put d undef) w := by
  obtain ⟨S, μ, g⟩ := hg
  exact ⟨S, μ, g.put d rfl fun _ _ => rfl⟩

/-- One operation in the text's order. -/
theorem wpL_cons {o : Oper} {rest : List Oper} {Q : St → Prop} {s : St} (h : wpL P Γ base ops (o :: rest) Q s) :
    (wantedA ops o s = some true ∧ aop P Γ base o.op s (fun a s' => wpL P Γ base ops rest Q (s'.put o.dst a))) ∨ (wantedA ops o s = some false ∧ wpL P Γ base ops rest Q (s.put o.dst (.v undef))) := by
  unfold wpL at h
  unfold wantedA
  split at h
  · rename_i hn; rw [hn]; exact .inl ⟨rfl, h⟩
  · rename_i j want hn
    rw [hn]
    simp only
    split at h
    · rename_i d hd
      rw [hd]
      simp only
      split at h
      · rename_i c hc
        rw [hc]
        simp only
        have hget := getD_v hc
        cases c <;> cases want <;> simp only [condP, cond_true, cond_false, put_same hget] at h <;> simp <;> exact h
      · rename_i c hc
        rw [hc]
        exact .inr ⟨rfl, h⟩
      · exact h.elim
    · exact h.elim

/-- What is asked at a region's end. -/
def atEnd (E : Ent) (Q : St → Prop) : Exit → Act → World → Prop
  | .normal, a, w => ∃ st, Q st ∧ G E st a w
  | _, _, _ => False

theorem wpL_sound (hΓ : CtxOK P Γ) (hb : E.H.length ≤ base) {Q : St → Prop} : ∀ (l : List Oper) {st : St} {a : Act} {w : World}, wpL P Γ base ops l Q st → G E st a w → wpList P ops (atEnd E Q) l a w
  | [], st, a, w, h, hg => ⟨st, h, hg⟩
  | o :: rest, st, a, w, h, hg => by
    unfold wpList
    rcases wpL_cons h with ⟨hw, h⟩ | ⟨hw, h⟩
    · rw [if_pos (wanted_of hg hw)]
      exact .inl (aop_sound hΓ hb hg o h fun v st' a' w' hK hg' => wpL_sound hΓ hb rest hK hg')
    · rw [if_neg (by rw [wanted_of hg hw]; simp)]
      exact wpL_sound hΓ hb rest h (hg.put_undef _)

/-! ### Whatever order is drawn -/

/-- What a quiet operation yields in a state. -/
def Yld (P : Program) (Γ : Ctx) (ops : Array Oper) (o : Oper) (s : St) (p : List Prop) (v : AV) : Prop :=
  (wantedA ops o s = some true ∧ aq P Γ o.op s.fr s.H = some (p, v)) ∨ (wantedA ops o s = some false ∧ p = [] ∧ v = .v undef)

theorem aop_quiet {op : Op} {s : St} {K : AV → St → Prop} (hq : quietOp Γ op = true) (h : aop P Γ base op s K) : ∃ p v, aq P Γ op s.fr s.H = some (p, v) ∧ (∀ q ∈ p, q) ∧ K v s := by
  have quiet : (match aq P Γ op s.fr s.H with | some (p, v) => need p (K v s) | none => False) → ∃ p v, aq P Γ op s.fr s.H = some (p, v) ∧ (∀ q ∈ p, q) ∧ K v s := fun h => by
    split at h
    · rename_i p v hq
      obtain ⟨hp, hK⟩ := need_elim h
      exact ⟨p, v, hq, hp, hK⟩
    · exact h.elim
  cases op <;> simp only [quietOp, reduceCtorEq] at hq <;> simp only [aop] at h <;> (try exact quiet h)
  case call c =>
    split at h
    · rename_i hcal
      rw [hcal] at hq
      cases hq
    · rename_i f hcal
      rw [hcal] at hq
      split at h
      · rename_i g caps hf
        split at h
        · rename_i T hl
          split at hq
          · cases hq
          · rename_i heq; cases heq
          · rename_i g' heq
            cases heq
            simp only [Cg.ev, AV.fn.injEq, Fn.func.injEq] at hf
            obtain ⟨rfl, _⟩ := hf
            rw [hl] at hq
            cases hq
          · cases hq
        · exact quiet h
      · exact quiet h
    · exact quiet h

theorem wpL_quiet {o : Oper} {rest : List Oper} {Q : St → Prop} {s : St} (hq : quietOp Γ o.op = true) (h : wpL P Γ base ops (o :: rest) Q s) :
    ∃ p v, Yld P Γ ops o s p v ∧ (∀ q ∈ p, q) ∧ wpL P Γ base ops rest Q (s.put o.dst v) := by
  rcases wpL_cons h with ⟨hw, h⟩ | ⟨hw, h⟩
  · obtain ⟨p, v, h1, h2, h3⟩ := aop_quiet hq h
    exact ⟨p, v, .inl ⟨hw, h1⟩, h2, h3⟩
  · exact ⟨[], _, .inr ⟨hw, rfl, rfl⟩, fun _ hq => by simp at hq, h⟩

/-- Whatever order is picked from here on. -/
def aAny (P : Program) (Γ : Ctx) (md : Region.Mode) (ops : Array Oper) (Q : St → Prop) : Nat → Array Bool → St → Prop
  | 0, listed, s => Region.ready md ops listed = [] ∧ Q s
  | fuel + 1, listed, s => (Region.ready md ops listed = [] → Q s) ∧
      ∀ i ∈ Region.ready md ops listed, ∃ o p v, ops[i]? = some o ∧ Yld P Γ ops o s p v ∧ (∀ q ∈ p, q) ∧ aAny P Γ md ops Q fuel (listed.setIfInBounds i true) (s.put o.dst v)

theorem wpOp_of_yld (hΓ : CtxOK P Γ) {i : Nat} {o : Oper} (hi : ops[i]? = some o) {s : St} {p : List Prop} {v : AV} (hy : Yld P Γ ops o s p v) (hp : ∀ q ∈ p, q) {a : Act} {w : World} (hg : G E s a w)
    {K : Act → World → Prop} {Q : Exit → Act → World → Prop} (hK : ∀ a' w', G E (s.put o.dst v) a' w' → K a' w') : wpOp P ops Q i K a w := by
  unfold wpOp
  rw [hi]
  simp only
  rcases hy with ⟨hw, hq⟩ | ⟨hw, rfl, rfl⟩
  · rw [if_pos (wanted_of hg hw)]
    exact .inl (wp_of_aq hΓ hg o hq hp hK)
  · rw [if_neg (by rw [wanted_of hg hw]; simp)]
    exact hK _ _ (hg.put_undef _)

theorem aAny_sound (hΓ : CtxOK P Γ) {md : Region.Mode} {Q : St → Prop} : ∀ (fuel : Nat) (listed : Array Bool) (s : St) (a : Act) (w : World), aAny P Γ md ops Q fuel listed s → G E s a w → wpAny P md ops (atEnd E Q) fuel listed a w
  | 0, _, s, _, _, h, hg => ⟨h.1, s, h.2, hg⟩
  | fuel + 1, _, s, _, _, h, hg => ⟨fun h0 => ⟨s, h.1 h0, hg⟩, fun i hi => by
      obtain ⟨o, p, v, h1, h2, h3, h4⟩ := h.2 i hi
      exact wpOp_of_yld hΓ h1 h2 h3 hg fun a' w' hg' => aAny_sound hΓ fuel _ _ a' w' h4 hg'⟩

theorem ev_put {s : St} {d : Option Tmp} {v : AV} {x : Operand} (h : ∀ t, d = some t → x ≠ .tmp t) : Cg.ev (s.put d v).fr x = Cg.ev s.fr x := by
  cases d with
  | none => rfl
  | some t =>
    cases x with
    | tmp u =>
      have hne : t ≠ u := fun e => h t rfl (by rw [e])
      simp only [St.put, Cg.ev, List.getD_eq_getElem?_getD, List.getElem?_set_ne hne]
    | _ => rfl

theorem put_H (s : St) (d : Option Tmp) (v : AV) : (s.put d v).H = s.H := by cases d <;> rfl

theorem aq_congr {op : Op} {fr fr' : List AV} {H : List AObj} (h : ∀ x ∈ op.operands, Cg.ev fr x = Cg.ev fr' x) : aq P Γ op fr H = aq P Γ op fr' H := by
  have pairs : ∀ ps : Array (Nat × Operand), (∀ x ∈ (ps.toList.map (·.2)).toArray, Cg.ev fr x = Cg.ev fr' x) → pairsA fr ps = pairsA fr' ps := fun ps hp =>
    List.map_congr_left fun p hm => by
      obtain ⟨i, x⟩ := p
      simp only [hp x (by simp; exact ⟨i, by simpa using hm⟩)]
  cases op <;> simp only [Op.operands] at h <;> simp only [aq]
  case build t ps => rw [pairs ps h]
  case buildSlice t n ps => rw [pairs ps h]
  case makeFunc fn first captured =>
    have : captured.toList.map (Cg.ev fr) = captured.toList.map (Cg.ev fr') := List.map_congr_left fun x hx => h x (by simp; exact .inr (by simpa using hx))
    rw [this]
  case call c =>
    have hargs : c.args.toList.map (Cg.ev fr) = c.args.toList.map (Cg.ev fr') := List.map_congr_left fun x hx => h x (by simp [Call.operands]; exact .inr (by simpa using hx))
    rw [hargs]
    cases hc : c.callee with
    | value f => simp only [h f (by simp [Call.operands, hc])]
    | builtin b => rfl
    | invoke r m => rfl
  case slice t x lo hi mx => cases lo <;> cases hi <;> cases mx <;> simp_all
  all_goals (first | rfl | (simp_all; done))

theorem wantedA_put {o : Oper} {s : St} {d : Option Tmp} {v : AV} (h : ∀ t, d = some t → t ∉ o.looksAt ops) : wantedA ops o (s.put d v) = wantedA ops o s := by
  cases d with
  | none => rfl
  | some t =>
    unfold wantedA
    cases hgd : o.guard with
    | none => rfl
    | some gw =>
      obtain ⟨j, want⟩ := gw
      simp only
      cases hd : guardSlot ops j with
      | none => rfl
      | some u =>
        have hne : t ≠ u := fun e => h t rfl (by
          subst e
          unfold guardSlot at hd
          split at hd
          · rename_i oj hoj; simp [Oper.looksAt, hgd, hoj, hd]
          · cases hd)
        simp only [St.put, List.getD_eq_getElem?_getD, List.getElem?_set_ne hne]

theorem Yld.put {o : Oper} {s : St} {p : List Prop} {v : AV} {d : Option Tmp} {u : AV} (h : ∀ t, d = some t → t ∉ o.looksAt ops) : Yld P Γ ops o (s.put d u) p v ↔ Yld P Γ ops o s p v := by
  have h1 : aq P Γ o.op (s.put d u).fr (s.put d u).H = aq P Γ o.op s.fr s.H := by
    rw [put_H]
    refine aq_congr fun x hx => ev_put fun t ht hxt => h t ht ?_
    subst hxt
    exact List.mem_append_left _ (List.mem_filterMap.2 ⟨.tmp t, by simpa using hx, rfl⟩)
  unfold Yld
  rw [h1, wantedA_put h]

theorem put_comm (s : St) {x y : Option Tmp} (v u : AV) (h : ∀ d, x = some d → y ≠ some d) : (s.put x v).put y u = (s.put y u).put x v := by
  cases x with
  | none => rfl
  | some d =>
    cases y with
    | none => rfl
    | some e =>
      have hne : d ≠ e := fun he => h d rfl (he ▸ rfl)
      simp only [St.put]
      rw [List.set_comm _ _ hne]

theorem aAny_first {md : Region.Mode} {Q : St → Prop} {i : Nat} {oi : Oper} {p : List Prop} {v : AV} (hi : ops[i]? = some oi) (hp : ∀ q ∈ p, q) :
    ∀ (fuel : Nat) (listed : Array Bool) (s : St),
      (∀ j oj, ops[j]? = some oj → j ≠ i → listed.getD j true = false → (∀ e ∈ oj.after, Region.binds md e = true → e.on ≠ i) → oi.apart ops oj = true) →
      i ∈ Region.ready md ops listed → Yld P Γ ops oi s p v → aAny P Γ md ops Q fuel (listed.setIfInBounds i true) (s.put oi.dst v) → aAny P Γ md ops Q (fuel + 1) listed s := by
  intro fuel
  induction fuel with
  | zero =>
    intro listed s _ hr hy H
    refine ⟨fun h => (by rw [h] at hr; cases hr), fun j hj => ?_⟩
    by_cases hji : j = i
    · subst hji; exact ⟨oi, p, v, hi, hy, hp, H⟩
    · have := ready_mono hj hji
      rw [H.1] at this
      cases this
  | succ fuel ih =>
    intro listed s hfree hr hy H
    refine ⟨fun h => (by rw [h] at hr; cases hr), fun j hj => ?_⟩
    by_cases hji : j = i
    · subst hji; exact ⟨oi, p, v, hi, hy, hp, H⟩
    · obtain ⟨oj, pj, u, hoj', hyj, hpj, hrest⟩ := H.2 j (ready_mono hj hji)
      obtain ⟨hjun, oj2, hoj, hall⟩ := mem_ready.1 hj
      rw [hoj'] at hoj
      cases hoj
      have hnot : ∀ e ∈ oj.after, Region.binds md e = true → e.on ≠ i := fun e he hb heq => by
        have h1 := hall e he hb
        have h0 := (mem_ready.1 hr).1
        rw [heq] at h1
        rcases Nat.lt_or_ge i listed.size with h' | h'
        · simp [h'] at h0 h1; rw [h0] at h1; cases h1
        · simp [Array.getElem?_eq_none h'] at h1
      obtain ⟨a1, a2, a3⟩ := Oper.apart_spec (hfree j oj hoj' hji hjun hnot)
      have hyj' : Yld P Γ ops oj s pj u := (Yld.put a1).1 hyj
      have hyi' : Yld P Γ ops oi (s.put oj.dst u) p v := (Yld.put a3).2 hy
      have hfree' : ∀ k ok, ops[k]? = some ok → k ≠ i → (listed.setIfInBounds j true).getD k true = false →
          (∀ e ∈ ok.after, Region.binds md e = true → e.on ≠ i) → oi.apart ops ok = true := fun k ok hk hki hun hno => by
        refine hfree k ok hk hki ?_ hno
        by_cases hjk : j = k
        · subst hjk; exact hjun
        · rw [getD_set_ne true hjk] at hun; exact hun
      refine ⟨oj, pj, u, hoj', hyj', hpj, ih (listed.setIfInBounds j true) _ hfree' (ready_mono hr (Ne.symm hji)) hyi' ?_⟩
      rw [Array.setIfInBounds_comm _ _ hji, ← put_comm s v u a2]
      exact hrest

theorem aAny_lex {md : Region.Mode} {Q : St → Prop} : ∀ (l : List Oper) (k : Nat) (listed : Array Bool) (s : St), (∀ o ∈ l, quietOp Γ o.op = true) → (∀ j, l[j]? = ops[k + j]?) →
    Region.lexFrom md ops l.length k listed = true → wpL P Γ base ops l Q s → aAny P Γ md ops Q l.length listed s
  | [], _, _, _, _, _, hB, h => ⟨by simpa [Region.lexFrom] using hB, h⟩
  | o :: l, k, listed, s, hq, hl, hB, h => by
    have h0 : ops[k]? = some o := by simpa using (hl 0).symm
    simp only [List.length_cons, Region.lexFrom, Bool.and_eq_true] at hB
    obtain ⟨⟨hr, hf⟩, hB'⟩ := hB
    obtain ⟨p, v, hy, hp, hK⟩ := wpL_quiet (hq o (by simp)) h
    exact aAny_first h0 hp l.length listed s (Region.free_spec h0 hf) (by simpa using hr) hy
      (aAny_lex l (k + 1) _ _ (fun o' ho' => hq o' (by simp [ho'])) (fun j => by have := hl (j + 1); simpa [Nat.add_assoc, Nat.add_comm 1 j] using this) hB' hK)

theorem G.drawn {st : St} {a : Act} {w : World} (hg : G E st a w) (d : Nat) : G E st a { w with drawn := d } := by
  obtain ⟨S, μ, g⟩ := hg
  exact ⟨S, μ, g.ext_same (Ext.drawn w d)⟩

/-- A region. -/
theorem region_sound (hm : P.follows .mixedOrders = true) (hΓ : CtxOK P Γ) (hb : E.H.length ≤ base) {id : Nat} {draw : Bool} {Q : St → Prop} {st : St} {a : Act} {w : World} (hg : G E st a w)
    (h : bif draw then (bif ops.toList.all (fun o => quietOp Γ o.op) && Region.lexB .any ops then wpL P Γ base ops ops.toList Q st else False) else wpL P Γ base ops ops.toList Q st) :
    (Code.region id ops draw).wp P (atEnd E Q) a w := by
  cases draw
  · simp only [cond_false] at h
    exact wp_region_list (wpL_sound hΓ hb _ h hg)
  · simp only [cond_true] at h
    cases hB : ops.toList.all (fun o => quietOp Γ o.op) && Region.lexB .any ops
    · rw [hB] at h; exact h.elim
    simp only [hB, cond_true] at h
    simp only [Bool.and_eq_true, Region.lexB] at hB
    refine wp_region_any hm (aAny_sound hΓ _ _ _ _ _ ?_ (hg.drawn _))
    have := aAny_lex (md := .any) ops.toList 0 (Array.replicate ops.size false) st (fun o ho => List.all_eq_true.1 hB.1 o ho) (by simp) (by simpa using hB.2.2) h
    simpa using this

end
end Cg
