/-
  Atoms, formulas, explanations, cases, as they are handed to a law. No condition.
-/
import Derived.Test.YtjhiaobcbbnhnaaGreatSameDefs
import Derived.Test.YtjhiaobcbbnhnaaGreatTreeLaw
set_option linter.unusedVariables false
set_option linter.unusedSimpArgs false
namespace Cg
open Go Pl
section
variable {H : Type} {P : Program} {enc : TypeId × Value → H} {w : World} {S : Nat → Prop}

theorem RelIL_last {a b : AV} (h : ∀ y, RelI S w a y → RelI S w b y) : ∀ {as : List AV} {ys : List Value}, RelIL S w (as ++ [a]) ys → RelIL S w (as ++ [b]) ys
  | [], ys, ⟨y, r, e, h1, h2⟩ => ⟨y, r, e, h y h1, h2⟩
  | c :: as, ys, ⟨y, r, e, h1, h2⟩ => ⟨y, r, e, h1, RelIL_last h h2⟩
theorem kids_cell {α : Type} {k : Nat} {e : α → Nat → AV} {f : Tree α → Nat → AV} (d : Tree α) (hf : ∀ t j, j < k + 1 → f t j = eTr k e t j) (v : α) (ks : List (Tree α)) (y : Value) (h : RelI S w (.sl ks.length (k + 1) fun i j => f (ks.getD i d) j) y) : RelI S w (.sl ks.length (k + 1) (subTr k e (.mk v ks))) y :=
  RelI_sl_congr (fun i hi j hj => by rw [hf _ j hj]; exact (subTr_get d (Tree.mk v ks) i hi j).symm) h

theorem OpensF.conv {n off : Nat} {fs : List Field} {α : Type} {ok ok' : α → Prop} {c c' : α → List AV} (h : OpensF P enc w S n off fs ok c) (h1 : ∀ x, ok x → ok' x) (h2 : ∀ x, c x = c' x) : OpensF P enc w S n off fs ok' c' := fun hc cs hl hf => by
  obtain ⟨a, ha, ra⟩ := h hc cs hl hf
  exact ⟨a, h1 a ha, by rw [← h2 a]; exact ra⟩

abbrev OkT (x : TP) : Prop := x.1.size ≤ maxLen ∧ x.2.length ≤ maxLen ∧ ∀ u ∈ x.2, MlT u
abbrev OkI (x : Int) : Prop := (Lit.int .i64 x).wf = true
abbrev OkTs (l : List Tm) : Prop := l.length ≤ maxLen ∧ ∀ x ∈ l, MlT x
abbrev OkIs (l : List Int) : Prop := l.length ≤ maxLen ∧ ∀ x ∈ l, OkI x
abbrev OkAt (x : Atm) : Prop := OkI x.1 ∧ OkT x.2.1 ∧ OkT x.2.2.1 ∧ OkTs x.2.2.2.1 ∧ OkIs x.2.2.2.2.1 ∧ OkI x.2.2.2.2.2.1 ∧ True
theorem MlA.of {x : Atm} (h : OkAt x) : MlA x := ⟨MlT.of h.2.1, MlT.of h.2.2.1, ⟨h.2.2.2.1.1, h.2.2.2.1.2⟩, h.2.2.2.2.1.1⟩

abbrev GF := Int × Ltr × List Frm
abbrev OkF (g : GF) : Prop := OkI g.1 ∧ (OkAt g.2.1.1 ∧ True) ∧ (g.2.2.length ≤ maxLen ∧ ∀ x ∈ g.2.2, MlF x)
theorem MlF.of {g : GF} (h : OkF g) : MlF (.mk (g.1, g.2.1) g.2.2) := AllTr.mk ⟨MlA.of h.2.1.1, h.2.2.1⟩ h.2.2.2
theorem OpensA.form {t tk : TypeId} {fs : Array Field} (ht : P.underlying t = some (.struct fs)) (hk : P.underlying tk = some (.slice t)) (hS : ∀ b, b < w.heap.size → S b)
    (hc : consec P 0 fs.toList = true) (hl : P.cellsOf t = cellsF P fs.toList) (hcs : P.cellsOf t = 12)
    (step : ∀ n, Opens P enc w S n tk (fun l : List Frm => l.length ≤ maxLen ∧ ∀ x ∈ l, MlF x) (fun l => [forms l]) → OpensF P enc w S n 0 fs.toList OkF (fun g : GF => [i64 g.1, i64 g.2.1.1.1, st g.2.1.1.2.1.1, Cg.terms g.2.1.1.2.1.2, st g.2.1.1.2.2.1.1, Cg.terms g.2.1.1.2.2.1.2, Cg.terms g.2.1.1.2.2.2.1, ints g.2.1.1.2.2.2.2.1, i64 g.2.1.1.2.2.2.2.2.1, bl g.2.1.1.2.2.2.2.2.2, bl g.2.1.2] ++ [forms g.2.2])) :
    OpensA P enc w S t OkF (fun g : GF => [i64 g.1, i64 g.2.1.1.1, st g.2.1.1.2.1.1, Cg.terms g.2.1.1.2.1.2, st g.2.1.1.2.2.1.1, Cg.terms g.2.1.1.2.2.1.2, Cg.terms g.2.1.1.2.2.2.1, ints g.2.1.1.2.2.2.2.1, i64 g.2.1.1.2.2.2.2.2.1, bl g.2.1.1.2.2.2.2.2.2, bl g.2.1.2] ++ [forms g.2.2]) :=
  OpensA.struct ht hc hl fun n => step n (Opens.tree (f := eF) (k := 12) (c := fun t => [i64 t.val.1, i64 t.val.2.1.1, st t.val.2.1.2.1.1, Cg.terms t.val.2.1.2.1.2, st t.val.2.1.2.2.1.1, Cg.terms t.val.2.1.2.2.1.2, Cg.terms t.val.2.1.2.2.2.1, ints t.val.2.1.2.2.2.2.1, i64 t.val.2.1.2.2.2.2.2.1, bl t.val.2.1.2.2.2.2.2.2, bl t.val.2.2] ++ [kidsF t]) dF ht hk hS hc hl hcs (by decide)
    (mkT := fun g : GF => .mk (g.1, g.2.1) g.2.2) (Ok := MlF)
    (fun x j hj => by match j, hj with
      | 0, _ => rfl
      | 1, _ => rfl
      | 2, _ => rfl
      | 3, _ => rfl
      | 4, _ => rfl
      | 5, _ => rfl
      | 6, _ => rfl
      | 7, _ => rfl
      | 8, _ => rfl
      | 9, _ => rfl
      | 10, _ => rfl
      | 11, _ => rfl)
    (fun g hg => MlF.of hg) (fun g ys _ h => by
      exact RelIL_last (fun y hy => kids_cell dF (fun t j hj => eF_tr t j hj) (g.1, g.2.1) g.2.2 y hy) h) step n).2

abbrev GW := Int × Int × TP × List Wy
abbrev OkW (g : GW) : Prop := OkI g.1 ∧ OkI g.2.1 ∧ OkT g.2.2.1 ∧ (g.2.2.2.length ≤ maxLen ∧ ∀ x ∈ g.2.2.2, MlW x)
theorem MlW.of {g : GW} (h : OkW g) : MlW (.mk (g.1, g.2.1, g.2.2.1) g.2.2.2) := AllTr.mk ⟨MlT.of h.2.2.1, h.2.2.2.1⟩ h.2.2.2.2
theorem OpensA.why {t tk : TypeId} {fs : Array Field} (ht : P.underlying t = some (.struct fs)) (hk : P.underlying tk = some (.slice t)) (hS : ∀ b, b < w.heap.size → S b)
    (hc : consec P 0 fs.toList = true) (hl : P.cellsOf t = cellsF P fs.toList) (hcs : P.cellsOf t = 5)
    (step : ∀ n, Opens P enc w S n tk (fun l : List Wy => l.length ≤ maxLen ∧ ∀ x ∈ l, MlW x) (fun l => [whys l]) → OpensF P enc w S n 0 fs.toList OkW (fun g : GW => [i64 g.1, i64 g.2.1, st g.2.2.1.1, Cg.terms g.2.2.1.2] ++ [whys g.2.2.2])) :
    OpensA P enc w S t OkW (fun g : GW => [i64 g.1, i64 g.2.1, st g.2.2.1.1, Cg.terms g.2.2.1.2] ++ [whys g.2.2.2]) :=
  OpensA.struct ht hc hl fun n => step n (Opens.tree (f := eW) (k := 5) (c := fun t => [i64 t.val.1, i64 t.val.2.1, st t.val.2.2.1, Cg.terms t.val.2.2.2] ++ [kidsW t]) dW ht hk hS hc hl hcs (by decide)
    (mkT := fun g : GW => .mk (g.1, g.2.1, g.2.2.1) g.2.2.2) (Ok := MlW)
    (fun x j hj => by match j, hj with
      | 0, _ => rfl
      | 1, _ => rfl
      | 2, _ => rfl
      | 3, _ => rfl
      | 4, _ => rfl)
    (fun g hg => MlW.of hg) (fun g ys _ h => by
      exact RelIL_last (fun y hy => kids_cell dW (fun t j hj => eW_tr t j hj) (g.1, g.2.1, g.2.2.1) g.2.2.2 y hy) h) step n).2

abbrev GC := Int × Int × GW × List Int × TP × TP × List Cse
abbrev OkC (g : GC) : Prop := OkI g.1 ∧ OkI g.2.1 ∧ OkW g.2.2.1 ∧ OkIs g.2.2.2.1 ∧ OkT g.2.2.2.2.1 ∧ OkT g.2.2.2.2.2.1 ∧ (g.2.2.2.2.2.2.length ≤ maxLen ∧ ∀ x ∈ g.2.2.2.2.2.2, MlC x)
abbrev GC.pc (g : GC) : PC := (g.1, g.2.1, ((g.2.2.1.1, g.2.2.1.2.1, g.2.2.1.2.2.1), g.2.2.1.2.2.2), g.2.2.2.1, g.2.2.2.2.1, g.2.2.2.2.2.1)
theorem MlC.of {g : GC} (h : OkC g) : MlC (.mk g.pc g.2.2.2.2.2.2) := AllTr.mk ⟨MlW.of h.2.2.1, h.2.2.2.1.1, MlT.of h.2.2.2.2.1, MlT.of h.2.2.2.2.2.1, h.2.2.2.2.2.2.1⟩ h.2.2.2.2.2.2.2
theorem OpensA.case {t tk : TypeId} {fs : Array Field} (ht : P.underlying t = some (.struct fs)) (hk : P.underlying tk = some (.slice t)) (hS : ∀ b, b < w.heap.size → S b)
    (hc : consec P 0 fs.toList = true) (hl : P.cellsOf t = cellsF P fs.toList) (hcs : P.cellsOf t = 13)
    (step : ∀ n, Opens P enc w S n tk (fun l : List Cse => l.length ≤ maxLen ∧ ∀ x ∈ l, MlC x) (fun l => [cases l]) → OpensF P enc w S n 0 fs.toList OkC (fun g : GC => [i64 g.1, i64 g.2.1, i64 g.2.2.1.1, i64 g.2.2.1.2.1, st g.2.2.1.2.2.1.1, Cg.terms g.2.2.1.2.2.1.2, whys g.2.2.1.2.2.2, ints g.2.2.2.1, st g.2.2.2.2.1.1, Cg.terms g.2.2.2.2.1.2, st g.2.2.2.2.2.1.1, Cg.terms g.2.2.2.2.2.1.2] ++ [cases g.2.2.2.2.2.2])) :
    OpensA P enc w S t OkC (fun g : GC => [i64 g.1, i64 g.2.1, i64 g.2.2.1.1, i64 g.2.2.1.2.1, st g.2.2.1.2.2.1.1, Cg.terms g.2.2.1.2.2.1.2, whys g.2.2.1.2.2.2, ints g.2.2.2.1, st g.2.2.2.2.1.1, Cg.terms g.2.2.2.2.1.2, st g.2.2.2.2.2.1.1, Cg.terms g.2.2.2.2.2.1.2] ++ [cases g.2.2.2.2.2.2]) :=
  OpensA.struct ht hc hl fun n => step n (Opens.tree (f := eC) (k := 13) (c := fun t => [i64 t.val.1, i64 t.val.2.1, i64 t.val.2.2.1.1.1, i64 t.val.2.2.1.1.2.1, st t.val.2.2.1.1.2.2.1, Cg.terms t.val.2.2.1.1.2.2.2, whys t.val.2.2.1.2, ints t.val.2.2.2.1, st t.val.2.2.2.2.1.1, Cg.terms t.val.2.2.2.2.1.2, st t.val.2.2.2.2.2.1, Cg.terms t.val.2.2.2.2.2.2] ++ [kidsC t]) dC ht hk hS hc hl hcs (by decide)
    (mkT := fun g : GC => .mk g.pc g.2.2.2.2.2.2) (Ok := MlC)
    (fun x j hj => by match j, hj with
      | 0, _ => rfl
      | 1, _ => rfl
      | 2, _ => rfl
      | 3, _ => rfl
      | 4, _ => rfl
      | 5, _ => rfl
      | 6, _ => rfl
      | 7, _ => rfl
      | 8, _ => rfl
      | 9, _ => rfl
      | 10, _ => rfl
      | 11, _ => rfl
      | 12, _ => rfl)
    (fun g hg => MlC.of hg) (fun g ys _ h => by
      exact RelIL_last (fun y hy => kids_cell dC (fun t j hj => eC_tr t j hj) g.pc g.2.2.2.2.2.2 y hy) h) step n).2
end
end Cg
