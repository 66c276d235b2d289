/-
  Data that are trees, as they are handed to a law. No condition.
-/
import Derived.Test.YtjhiaobcbbnhnaaGreatSortDefs
import Derived.Test.YtjhiaobcbbnhnaaGreatLaw
set_option linter.unusedVariables false
set_option linter.unusedSimpArgs false
namespace Cg
open Go Pl
section
variable {H : Type} {P : Program} {enc : TypeId × Value → H} {w : World} {S : Nat → Prop}

theorem Opens.tree {α γ : Type} {k : Nat} {f : Tree α → Nat → AV} {t tk : TypeId} {fs : Array Field} (d : Tree α) (ht : P.underlying t = some (.struct fs)) (hk : P.underlying tk = some (.slice t)) (hS : ∀ b, b < w.heap.size → S b)
    (hc : consec P 0 fs.toList = true) (hl : P.cellsOf t = cellsF P fs.toList) (hcs : P.cellsOf t = k) (hpos : 0 < k) {Ok : Tree α → Prop} {okg : γ → Prop} {cg : γ → List AV} {c : Tree α → List AV} (mkT : γ → Tree α)
    (hf : ∀ x j, j < k → (c x).getD j .any = f x j) (hok : ∀ g, okg g → Ok (mkT g)) (hcell : ∀ g ys, okg g → RelIL S w (cg g) ys → RelIL S w (c (mkT g)) ys)
    (step : ∀ n, Opens P enc w S n tk (fun l : List (Tree α) => l.length ≤ maxLen ∧ ∀ x ∈ l, Ok x) (fun l => [.sl l.length k fun i j => f (l.getD i d) j]) → OpensF P enc w S n 0 fs.toList okg cg) (n : Nat) :
    Opens P enc w S n t Ok c ∧ Opens P enc w S n tk (fun l : List (Tree α) => l.length ≤ maxLen ∧ ∀ x ∈ l, Ok x) (fun l => [.sl l.length k fun i j => f (l.getD i d) j]) := by
  induction n with
  | zero => exact ⟨Opens.zero, Opens.zero⟩
  | succ n ih =>
    refine ⟨fun cs x hx => ?_, ?_⟩
    · obtain ⟨g, h1, h2⟩ := Opens.struct ht hc hl (step n ih.2) cs x hx
      exact ⟨mkT g, hok g h1, hcell g cs h1 h2⟩
    · exact (Opens.slice hk hS ih.1 (by omega)).weaken fun l y _ ⟨z, r, h1, h2, h3⟩ => ⟨z, r, h1, by
        rw [hcs] at h2
        refine RelI_sl_congr (fun i hi j hj => ?_) h2
        rw [List.getElem?_eq_getElem hi, ← hf _ _ hj]
        simp [hi], h3⟩

theorem cells_tp (a : ByteArray) (b : List Tm) {ys : List Value} (h : RelIL S w ([st a] ++ [terms b]) ys) : RelIL S w [st a, kidsT (.mk a b)] ys := by
  obtain ⟨y, r, e1, h1, y', r', e2, h2, e3⟩ := h
  refine ⟨y, r, e1, h1, y', r', e2, ?_, e3⟩
  exact RelI_sl_congr (fun i hi j hj => by rw [eT_tr _ j hj]; exact (subTr_get dT (Tree.mk a b) i hi j).symm) h2

/-- A term's fields, by what its kids read as. -/
theorem OpensF.term {f0 f1 : Field} {t : TypeId} (h0 : P.underlying f0.type = some .string) (n : Nat)
    (h1 : Opens P enc w S n f1.type (fun l : List Tm => l.length ≤ maxLen ∧ ∀ x ∈ l, MlT x) (fun l => [terms l])) :
    OpensF P enc w S n 0 [f0, f1] (fun x : TP => x.1.size ≤ maxLen ∧ x.2.length ≤ maxLen ∧ ∀ u ∈ x.2, MlT u) (fun x => [st x.1] ++ [terms x.2]) :=
  OpensF.cons (OpensA.string h0 n) (OpensF.one h1)

theorem Opens.terms {t tk : TypeId} {f0 f1 : Field} (ht : P.underlying t = some (.struct #[f0, f1])) (h0 : P.underlying f0.type = some .string) (h1 : f1.type = tk) (hk : P.underlying tk = some (.slice t)) (hS : ∀ b, b < w.heap.size → S b)
    (hc : consec P 0 [f0, f1] = true) (hl : P.cellsOf t = cellsF P [f0, f1]) (hcs : P.cellsOf t = 2) (n : Nat) :
    Opens P enc w S n t MlT (fun t => [st t.val, kidsT t]) ∧ Opens P enc w S n tk (fun l : List Tm => l.length ≤ maxLen ∧ ∀ x ∈ l, MlT x) (fun l => [Cg.terms l]) :=
  Opens.tree (f := eT) (k := 2) dT ht hk hS hc hl hcs (by decide) (mkT := fun x : TP => .mk x.1 x.2) (Ok := MlT)
    (fun x j hj => by match j, hj with
      | 0, _ => rfl
      | 1, _ => rfl)
    (fun g hg => AllT.mk ⟨hg.1, hg.2.1⟩ hg.2.2) (fun g ys _ h => cells_tp g.1 g.2 h)
    (fun n h => OpensF.term h0 n (t := t) (by rw [h1]; exact h)) n

/-- A term that is handed to a law. -/
theorem OpensA.term {t tk : TypeId} {f0 f1 : Field} (ht : P.underlying t = some (.struct #[f0, f1])) (h0 : P.underlying f0.type = some .string) (h1 : f1.type = tk) (hk : P.underlying tk = some (.slice t)) (hS : ∀ b, b < w.heap.size → S b)
    (hc : consec P 0 [f0, f1] = true) (hl : P.cellsOf t = cellsF P [f0, f1]) (hcs : P.cellsOf t = 2) : OpensA P enc w S t (fun x : TP => x.1.size ≤ maxLen ∧ x.2.length ≤ maxLen ∧ ∀ u ∈ x.2, MlT u) (fun x => [st x.1] ++ [Cg.terms x.2]) :=
  OpensA.struct ht hc hl fun n => OpensF.term h0 n (t := t) (by rw [h1]; exact (Opens.terms ht h0 h1 hk hS hc hl hcs n).2)
theorem OpensA.terms {t tk : TypeId} {f0 f1 : Field} (ht : P.underlying t = some (.struct #[f0, f1])) (h0 : P.underlying f0.type = some .string) (h1 : f1.type = tk) (hk : P.underlying tk = some (.slice t)) (hS : ∀ b, b < w.heap.size → S b)
    (hc : consec P 0 [f0, f1] = true) (hl : P.cellsOf t = cellsF P [f0, f1]) (hcs : P.cellsOf t = 2) : OpensA P enc w S tk (fun l : List Tm => l.length ≤ maxLen ∧ ∀ x ∈ l, MlT x) (fun l => [Cg.terms l]) :=
  fun n => (Opens.terms ht h0 h1 hk hS hc hl hcs n).2
theorem MlT.of {x : TP} (h : x.1.size ≤ maxLen ∧ x.2.length ≤ maxLen ∧ ∀ u ∈ x.2, MlT u) : MlT (.mk x.1 x.2) := AllT.mk ⟨h.1, h.2.1⟩ h.2.2
end
end Cg
