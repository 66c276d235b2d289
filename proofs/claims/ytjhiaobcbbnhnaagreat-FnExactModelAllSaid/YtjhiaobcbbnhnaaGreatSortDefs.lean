/-
  Plain functions, and what is known of the codes' callees and loops: terms. No condition.
-/
import Derived.Test.YtjhiaobcbbnhnaaGreatSigDefs
namespace Pl
open Go
def shape : Nat → Tm → Bool
  | 0, _ => false
  | n + 1, t => nameOk t.val && decide (t.kids.length ≤ 2) && t.kids.all (shape n)
def manyD : Nat → Tm → Nat
  | 0, _ => 1
  | n + 1, t => 1 + sumN (manyD n) t.kids
def right (t : Tm) : Bool := shape 4 t && decide (manyD 4 t ≤ 12)
def tsz : Nat → Tm → Nat
  | 0, _ => 13
  | n + 1, t => if (!nameOk t.val || decide (t.kids.length > 2)) = true then 13 else 1 + sumN (tsz n) t.kids
def isTerm (t : Tm) : Bool := decide (tsz 4 t ≤ 12)
def find (s : Sig) (nm : ByteArray) : Option Sym := s.find? fun x => decide (x.1 = nm)
mutual
def sortT (s : Sig) : Tm → Option Int
  | .mk v ks => match find s v with
    | none => none
    | some x => if x.2.1.length ≠ ks.length then none else if sortL s ks x.2.1 = true then some x.2.2 else none
def sortL (s : Sig) : List Tm → List Int → Bool
  | [], _ => true
  | t :: ts, as => decide (sortT s t = some (as.headD 0)) && sortL s ts as.tail
end
mutual
def costT : Tm → Nat
  | .mk v ks => v.size + ks.length + costTs ks
def costTs : List Tm → Nat
  | [] => 0
  | t :: ts => costT t + costTs ts
end
theorem costT_eq (t : Tm) : costT t = t.val.size + t.kids.length + costTs t.kids := by cases t; simp only [costT, Tree.val, Tree.kids]
theorem costT_mem {t : Tm} : ∀ {l : List Tm}, t ∈ l → costT t ≤ costTs l
  | u :: r, h => by
    unfold costTs
    cases List.mem_cons.1 h with
    | inl e => subst e; omega
    | inr e => have := costT_mem e; omega
theorem costTs_snoc (l : List Tm) (t : Tm) : costTs (l ++ [t]) = costTs l + costT t := by
  induction l with
  | nil => simp [costTs]
  | cons u r ih => simp only [List.cons_append, costTs, ih]; omega
theorem many_cost : ∀ (n : Nat) (t : Tm), t.many ≤ n → t.many ≤ 1 + costT t := by
  intro n
  induction n with
  | zero => intro t h; have := t.many_pos; omega
  | succ n ih =>
    intro t h
    rw [t.many_eq] at h ⊢
    rw [costT_eq]
    have key : ∀ l : List Tm, manyL l ≤ n → manyL l ≤ l.length + costTs l := by
      intro l
      induction l with
      | nil => intro _; exact Nat.le_refl _
      | cons u r ih' =>
        intro hl
        simp only [manyL, costTs, List.length_cons] at hl ⊢
        have := ih u (by omega)
        have := ih' (by omega)
        omega
    have := key t.kids (by omega)
    omega
/-- A thing that holds of all terms in a term. -/
inductive AllT (p : Tm → Prop) : Tm → Prop where
  | mk {t : Tm} (h : p t) (hk : ∀ u ∈ t.kids, AllT p u) : AllT p t
theorem AllT.here {p : Tm → Prop} {t : Tm} (h : AllT p t) : p t := by cases h; assumption
theorem AllT.kid {p : Tm → Prop} {t u : Tm} (h : AllT p t) (hu : u ∈ t.kids) : AllT p u := by cases h with | mk _ hk => exact hk u hu
end Pl
namespace Cg
open Go Pl
def termA (x : TP) : AV := .agg [st x.1, terms x.2]
abbrev TP.tm (x : TP) : Tm := .mk x.1 x.2
abbrev MlT (t : Tm) : Prop := AllT (fun u => u.val.size ≤ 9223372036854775807 ∧ u.kids.length ≤ 9223372036854775807) t
abbrev SmT (t : Tm) : Prop := costT t ≤ 1048576
abbrev SmTs (l : List Tm) : Prop := l.length + costTs l ≤ 1048576
def K_szTerm (n : Nat) : Nat × Contract := (Nm.laws_szTerm, .sc (TP × Int) (fun x => [termA x.1, i64 x.2]) (fun x => (MlT (.mk x.1.1 x.1.2) ∧ Fu x.2) ∧ manyL x.1.2 < n) fun x => i64 (lim (x.2 - costT (.mk x.1.1 x.1.2))))
def K_szTermS (n : Nat) : Nat × Contract := (Nm.laws_szTermS, .sc (List Tm × Int) (fun x => [terms x.1, i64 x.2]) (fun x => ((Ml x.1 ∧ ∀ t ∈ x.1, MlT t) ∧ Fu x.2) ∧ manyL x.1 < n) fun x => i64 (lim (x.2 - (x.1.length + costTs x.1 : Nat))))
def K_toTerm (n : Nat) : Nat × Contract := (Nm.laws_toTerm, .im TP (fun x => [termA x]) (fun x => SmT (.mk x.1 x.2) ∧ manyL x.2 < n) termA)
def K_toTermS (n : Nat) : Nat × Contract := (Nm.laws_toTermS, .im (List Tm) (fun x => [terms x]) (fun x => SmTs x ∧ manyL x < n) terms)
noncomputable def K_eqTerm (n : Nat) : Nat × Contract := (Nm.laws_eqTerm, .sc (TP × TP) (fun x => [termA x.1, termA x.2]) (fun x => SmT (.mk x.1.1 x.1.2) ∧ manyL x.1.2 < n) fun x => bl (decide (x.1 = x.2)))
noncomputable def K_eqTermS (n : Nat) : Nat × Contract := (Nm.laws_eqTermS, .sc (List Tm × List Tm) (fun x => [terms x.1, terms x.2]) (fun x => SmTs x.1 ∧ manyL x.1 < n) fun x => bl (decide (x.1 = x.2)))
def K_szT : Nat × Contract := (Nm.laws_szTerm, .sc (TP × Int) (fun x => [termA x.1, i64 x.2]) (fun x => MlT (.mk x.1.1 x.1.2) ∧ Fu x.2) fun x => i64 (lim (x.2 - costT (.mk x.1.1 x.1.2))))
def K_szTs : Nat × Contract := (Nm.laws_szTermS, .sc (List Tm × Int) (fun x => [terms x.1, i64 x.2]) (fun x => (Ml x.1 ∧ ∀ t ∈ x.1, MlT t) ∧ Fu x.2) fun x => i64 (lim (x.2 - (x.1.length + costTs x.1 : Nat))))
def K_toT : Nat × Contract := (Nm.laws_toTerm, .im TP (fun x => [termA x]) (fun x => SmT (.mk x.1 x.2)) termA)
def K_toTs : Nat × Contract := (Nm.laws_toTermS, .im (List Tm) (fun x => [terms x]) SmTs terms)
noncomputable def K_eqT : Nat × Contract := (Nm.laws_eqTerm, .sc (TP × TP) (fun x => [termA x.1, termA x.2]) (fun x => SmT (.mk x.1.1 x.1.2)) fun x => bl (decide (x.1 = x.2)))
noncomputable def K_eqTs : Nat × Contract := (Nm.laws_eqTermS, .sc (List Tm × List Tm) (fun x => [terms x.1, terms x.2]) (fun x => SmTs x.1) fun x => bl (decide (x.1 = x.2)))

def A_szTermS (l : List Tm) (k : Int) : List Ann :=
  [.mk Nat (fun x => x ≤ l.length ∧ 0 ≤ k - l.length - costTs (l.take x)) (fun x => { fr := pad [terms l, i64 (k - l.length - costTs (l.take x)), .any, .any, .any, i64 x] 27, H := [] }) (fun x => l.length - x) (fun _ => [])]
def A_toTermS (l : List Tm) : List Ann :=
  [.mk (Nat × List Tm) (fun x => x.1 ≤ l.length ∧ x.2.length = l.length ∧ x.2.take x.1 = l.take x.1) (fun x => { fr := pad [terms l, .any, .any, .osl 0 0 x.2.length, i64 x.1] 23, H := [arT x.2] }) (fun x => l.length - x.1) (fun _ => [])]
def A_eqTermS (l m : List Tm) : List Ann :=
  [.mk Nat (fun x => x ≤ l.length ∧ l.length = m.length ∧ (l = m ↔ l.drop x = m.drop x)) (fun x => { fr := pad [terms l, terms m, .any, .any, .any, i64 x] 27, H := [] }) (fun x => l.length - x) (fun _ => [])]
end Cg
