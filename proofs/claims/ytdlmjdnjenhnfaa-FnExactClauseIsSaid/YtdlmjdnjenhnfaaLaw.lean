/-
  A law's statement out of its function's contract. No condition.
-/
import Derived.Test.YtdlmjdnjenhnfaaOpen
import Derived.WalkKit
import Derived.ProofKit
namespace Cg
open Go Go.ChangeShapes Go.WideShapes Go.RowKit

section
variable {P : Program} {H : Type} {enc : TypeId × Value → H}

theorem Ext.below {W W' : World} (h : Ext W W') : Below W.heap.size W W' := ⟨h.os, h.tape, h.output, h.size, h.block⟩

theorem trodAll_below (hl : laidOutB P = true) {W W' : World} (hb : Below W.heap.size W W') : ∀ {ts : List TypeId} {vs : List Value} {ds : List (DataW H)} {ps : List MemPlace}, (∀ t ∈ ts, P.readableRec t = true ∧ t < P.types.size) →
    DataW.TrodAll enc P W 0 (fun _ => true) true ts vs ds ps → (∀ x ∈ ps, x.block < W.heap.size) → ∀ sp : Nat → Bool, (∀ p ∈ ps, sp p.block = true) → DataW.TrodAll enc P W' 0 sp true ts vs ds ps
  | [], vs, ds, ps, _, h, _, _, _ => by
    obtain ⟨rfl, rfl, rfl⟩ := trodAll_nil h
    rfl
  | t :: ts, vs, ds, ps, ht, h, hlt, sp, hsp => by
    obtain ⟨v, vs', d, ds', p, q, rfl, rfl, rfl, h1, h2⟩ := trodAll_cons h
    exact ⟨p, q, WideElems.Trod_stays hl (ht t (by simp)).1 (ht t (by simp)).2 h1 (fun x hx => hb.same (hlt x (by simp [hx]))) (fun x hx => hsp x (by simp [hx])),
      trodAll_below hl hb (fun t' h' => ht t' (by simp [h'])) h2 (fun x hx => hlt x (by simp [hx])) sp (fun x hx => hsp x (by simp [hx])), rfl⟩

theorem keptBut_of_ext {W W' : World} (h : Ext W W') (may : MemPlace → Prop) : W.keptBut W' may :=
  h.below.frame may

theorem law_post {f : FuncId} {fn : Func} {s : ChangeSpec} {bt : TypeId} (hl : laidOutB P = true) (hread : fn.params.toList.all (fun t => P.readableRec t && decide (t < P.types.size)) = true) (hvars : s.vars = []) (hb : P.underlying bt = some .bool) (hres : fn.resultTypes = #[bt])
    {W : World} {args : Array Value} {ds gs : List (DataW H)} {before : List MemPlace} (hW : DataW.Whole enc P fn.params.toList s.vars false W args.toList ds gs before)
    (hspec : s.fn H ds = { results := [.lit (.bool true)], args := ds })
    (hcall : Calls P f args W fun e W' => e = .returned (.bool true) ∧ Ext W W') :
    Calls P f args W fun e W' => ∃ v, e = .returned v ∧ s.post enc P fn false true false false W args v W' := by
  have hW' := hW
  obtain ⟨p, q, hA, hV, rfl, hfz, hnd⟩ := hW
  rw [hvars] at hV
  obtain ⟨rfl, rfl⟩ := trodVars_none hV
  refine hcall.mono fun e W' ⟨he, hx⟩ => ?_
  subst he
  have hspec' : s.fn H (ds ++ []) = { results := [.lit (.bool true)], args := ds } := by rw [List.append_nil]; exact hspec
  have hlt : ∀ x ∈ p, x.block < W.heap.size := fun x hx => hW'.lt x (by simp [hx])
  have hr : ∀ t ∈ fn.params.toList, P.readableRec t = true ∧ t < P.types.size := fun t ht => by
    have := List.all_eq_true.1 hread t ht
    simpa using this
  have res : ∀ (b : Nat) (sp : Nat → Bool) (hd : Bool), DataW.TrodAll enc P W' b sp hd fn.resultTypes.toList ((Value.bool true).resultList fn.resultTypes.size) (s.fn H (ds ++ [])).results [] := fun _ _ _ => by
    rw [hspec', hres]
    exact trodAll_cons_mk (shut_bool hb _) trodAll_mk0
  have arg : ∀ sp : Nat → Bool, (∀ x ∈ p, sp x.block = true) → DataW.TrodAll enc P W' 0 sp true fn.params.toList args.toList (s.fn H (ds ++ [])).args p := fun sp hsp => by
    rw [hspec']
    exact trodAll_below hl hx.below hr hA hlt sp hsp
  have var : ∀ sp : Nat → Bool, DataW.TrodVars enc P W' sp s.vars (s.fn H (ds ++ [])).vars [] := fun sp => by
    rw [hspec', hvars]
    rfl
  have hold : ∀ x ∈ p, decide (x.block < W.heap.size) = true := fun x h => by simpa using hlt x h
  refine ⟨_, rfl, ds, [], p ++ [], [], p, [], hW', res _ _ _, arg _ hold, var _, World.keptBut_mono (fun x h => ⟨h, .inr (by simpa using h)⟩) (keptBut_of_ext hx _), fun _ => ?_⟩
  refine ⟨ok_one hres rfl (okWide_bool_mk hb _), _, _, ([] ++ p) ++ [], ⟨[] ++ p, [], trodAll_append (arg _ fun _ _ => rfl) (res _ _ _), var _, rfl, fun b off hp => ?_, fun ha => ?_⟩, fun x h _ => ?_⟩
  · have hp : MemPlace.cell b off ∈ p := by simpa using hp
    rw [hx.below.frozen (p := ⟨b, off, none⟩) (hlt _ hp)]
    exact hfz b off (by simpa using hp)
  · exact absurd ha (by simp)
  · simpa using h

/-- A contract at the values that a call was given. -/
theorem PureAt.calls {f : FuncId} {args : List AV} {b : Bool} (h : PureAt P f args (bl b)) {W : World} {vals : List Value} (hr : RelL (fun k => k < W.heap.size) mu0 W args vals) : Calls P f vals.toArray W fun e W' => e = .returned (.bool b) ∧ Ext W W' :=
  (h _ W vals (fun _ h => h) hr).mono fun e W' he => by
    obtain ⟨y, S', rfl, h1, _, _, _, h5⟩ := he
    exact ⟨by rw [show y = .bool b from h5], h1⟩

section
variable {w : World} {S : Nat → Prop} {t : TypeId} {v : Value} {d : DataW H} {ps : List MemPlace} {r : Reach} {b0 : Nat}

theorem Opens.arg_slice {e : TypeId} {α : Type} {ok : α → Prop} {c : α → AV} (ht : P.underlying t = some (.slice e)) (hval : Value.okWide P w r b0 t v) (hd : DataW.Trod enc P w 0 (fun _ => true) true t v d ps) (h : ∀ n, Opens P enc w S n t ok (fun a => [c a])) : ∃ a, ok a ∧ Rel S mu0 w (c a) v := by
  obtain ⟨a, ha, hr⟩ := Opens.value h hd (fun _ => by obtain ⟨a, l, k, rfl⟩ := okWide_slice ht hval; rfl)
  exact ⟨a, ha, RelI_Rel hr⟩

theorem Opens.arg_int {k : IntKind} (ht : P.underlying t = some (.int k)) (hval : Value.okWide P w r b0 t v) (hd : DataW.Trod enc P w 0 (fun _ => true) true t v d ps) : ∃ x : Int, (Lit.int k x).wf = true ∧ Rel S mu0 w (.v (.int k x)) v := by
  obtain ⟨a, ha, hr⟩ := Opens.value (fun n => Opens.int (S := S) (n := n) ht) hd (fun _ => by obtain ⟨a, rfl⟩ := okWide_int ht hval; rfl)
  exact ⟨a, ha, RelI_Rel hr⟩

theorem Opens.arg_bool (ht : P.underlying t = some .bool) (hval : Value.okWide P w r b0 t v) (hd : DataW.Trod enc P w 0 (fun _ => true) true t v d ps) : ∃ x : Bool, Rel S mu0 w (.v (.bool x)) v := by
  obtain ⟨a, ha, hr⟩ := Opens.value (fun n => Opens.bool (S := S) (n := n) ht) hd (fun _ => by obtain ⟨a, rfl⟩ := okWide_bool ht hval; rfl)
  exact ⟨a, RelI_Rel hr⟩

theorem Opens.arg_string (ht : P.underlying t = some .string) (hval : Value.okWide P w r b0 t v) (hd : DataW.Trod enc P w 0 (fun _ => true) true t v d ps) : ∃ x : ByteArray, x.size ≤ maxLen ∧ Rel S mu0 w (.v (.string x)) v := by
  obtain ⟨a, ha, hr⟩ := Opens.value (fun n => Opens.string (S := S) (n := n) ht) hd (fun _ => by obtain ⟨a, rfl⟩ := okWide_string ht hval; rfl)
  exact ⟨a, ha, RelI_Rel hr⟩

theorem RelIL_RelL : ∀ {as : List AV} {ys : List Value}, RelIL S w as ys → RelL S mu0 w as ys
  | [], _, h => h
  | _ :: _, _, ⟨y, r, e, h1, h2⟩ => ⟨y, r, e, RelI_Rel h1, RelIL_RelL h2⟩

theorem Opens.arg_struct {fs : Array Field} {α : Type} {ok : α → Prop} {c : α → List AV} (ht : P.underlying t = some (.struct fs)) (hval : Value.okWide P w r b0 t v) (hd : DataW.Trod enc P w 0 (fun _ => true) true t v d ps) (h : ∀ n, Opens P enc w S n t ok c) : ∃ a, ok a ∧ Rel S mu0 w (.agg (c a)) v := by
  obtain ⟨cs, rfl, _⟩ := okWide_struct ht hval
  obtain ⟨n, hn⟩ := hd
  obtain ⟨a, ha, hr⟩ := h n _ _ hn
  exact ⟨a, ha, _, rfl, RelIL_RelL hr⟩
end

end
end Cg
