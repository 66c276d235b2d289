/-
  Plain functions, and what is known of the codes' callees and loops: drawn logs. No condition.
-/
import Derived.Test.YtgobdkgdhmkegaaHuntDefs
namespace Cg
open Go
/-- A row of rows whose inner rows are owned too. -/
def xrII (l : List (List Int)) : AObj := .xarr l.length 1 fun i j => eII (l.getD i []) j
def LgOk (x : Pl.Cnf × List (List Int)) : Prop := x.1.1 ≤ 61 ∧ x.1.2.length ≤ 103 ∧ (∀ y ∈ x.1.2, y.length ≤ 100) ∧ x.2.length ≤ 131 ∧ ∀ y ∈ x.2, y.length ≤ 61
def K_l11Copy : Nat × Contract := (Nm.spec_l11Copy, .eff (List (List Int)) (fun l => ⟨[intss l], []⟩) (fun l => l.length ≤ 1000 ∧ ∀ x ∈ l, x.length ≤ 1000) Unit (fun _ _ => True) fun l _ => (.osl 0 0 l.length, [xrII l]))
def K_l10CnfO : Nat × Contract := (Nm.spec_l10Cnf, .eff (List Int × Int) (fun x => ⟨[.ptr 0 0], [.var [byts x.1, i64 x.2]]⟩) (fun x => Rd 137438953472 x.1 x.2) (Pl.Cnf × Int) (fun x y => Sm y.1 ∧ x.2 ≤ y.2 ∧ y.2 ≤ x.2 + 10000) fun x y => (.agg [i64 y.1.1, .osl 1 0 y.1.2.length], [.var [byts x.1, i64 y.2], arII y.1.2]))
def K_sHuntRunF : Nat × Contract := (Nm.spec_HuntRun, .imf (Pl.Cnf × Int) (fun x => [cnf x.1, i64 x.2]) (fun x => SzC x.1) fun x => .tup [bools (Pl.huntRun x.1 x.2).1, intss (Pl.huntRun x.1 x.2).2.1, bl (Pl.huntRun x.1 x.2).2.2])
def K_l11Draw : Nat × Contract := (Nm.spec_l11Draw, .eff (List Int) (fun b => ⟨[byts b], []⟩) (fun b => Sz b ∧ Byt b) (Pl.Cnf × List (List Int)) (fun _ y => LgOk y) fun _ y => (.tup [cnf y.1, intss y.2], []))
def K_DrawLogOk : Nat × Contract := (Nm.spec_DrawLogOk, .eff (List Int) (fun b => ⟨[byts b], []⟩) (fun b => Sz b ∧ Byt b) (Pl.Cnf × List (List Int)) (fun _ y => LgOk y) fun _ y => (.tup [cnf y.1, intss y.2], []))
def K_DrawLogTrim : Nat × Contract := (Nm.spec_DrawLogTrim, .eff (List Int) (fun b => ⟨[byts b], []⟩) (fun b => Sz b ∧ Byt b) (Pl.Cnf × List (List Int)) (fun _ y => LgOk y) fun _ y => (.tup [cnf y.1, intss y.2], []))
def K_yLogOk : Nat × Contract := (Nm.laws_FnLogOk, .sc (List Int × List Int) (fun b => [byts b.1, byts b.2]) (fun b => Byt b.1 ∧ Byt b.2) fun _ => bl true)
def K_yLogNever : Nat × Contract := (Nm.laws_FnLogNever, .sc (List Int) (fun b => [byts b]) Byt fun _ => bl true)
def K_yLogMore : Nat × Contract := (Nm.laws_FnLogMore, .sc (List Int) (fun b => [byts b]) Byt fun _ => bl true)

def A_l11Copy (l : List (List Int)) : List Ann :=
  [.mk Nat (fun x => x ≤ l.length) (fun x => { fr := pad [intss l, .any, .any, .osl 0 0 x, i64 x] 22, H := [xrII (l.take x)] }) (fun x => l.length - x) (fun _ => [])]
abbrev DX := Nat × List Int × Int × Pl.Cnf
def A_l11Draw : List Ann :=
  [.mk DX (fun x => x.1 ≤ 3 ∧ Rd 137438963472 x.2.1 x.2.2.1 ∧ x.2.2.2.1 ≤ 61 ∧ x.2.2.2.2.length ≤ 100 + x.1 ∧ ∀ y ∈ x.2.2.2.2, y.length ≤ 100)
    (fun x => { fr := pad [.any, .any, .ptr 0 0, .any, .ptr 1 0, .ptr 2 0, i64 x.1] 118, H := [.var [i64 0, nilA], .var [byts x.2.1, i64 x.2.2.1], .var [i64 x.2.2.2.1, .osl 3 0 x.2.2.2.2.length], arII x.2.2.2.2] }) (fun x => 3 - x.1)
    (fun x => [.mk (Nat × List Int × List Bool) (fun z => z.1 ≤ 2 ∧ z.2.1.length = z.1)
      (fun z => { fr := pad [.any, .any, .ptr 0 0, .any, .ptr 1 0, .ptr 2 0, i64 x.1, bools z.2.2, .any, .any, .osl 3 0 z.2.1.length, i64 z.1] 118, H := [.var [i64 0, nilA], .var [byts x.2.1, i64 x.2.2.1], .var [i64 x.2.2.2.1, intss x.2.2.2.2], arI z.2.1] }) (fun z => 2 - z.1) (fun _ => [])])]
def A_yLogOk : List Ann :=
  [.mk (Pl.Cnf × List (List Int) × List Bool × List Int × Nat) (fun x => LgOk (x.1, x.2.1) ∧ Pl.logOk x.1 x.2.1 = true ∧ x.2.2.1.length ≤ 101 ∧ Byt x.2.2.2.1 ∧ x.2.2.2.1.length ≤ 1048576 ∧ x.2.2.2.2 ≤ x.2.1.length)
    (fun x => { fr := pad [.any, byts x.2.2.2.1, .any, .any, .any, .ptr 0 0, intss x.2.1, .any, bools x.2.2.1, .any, bl (Pl.cnfIs x.1 x.2.2.1), i64 x.2.2.2.2] 76, H := [.var [i64 x.1.1, intss x.1.2]] }) (fun x => x.2.1.length - x.2.2.2.2) (fun _ => [])]
end Cg
