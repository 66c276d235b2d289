/-
  Plain functions, and what is known of the codes' callees and loops: trimmed logs. No condition.
-/
import Derived.Test.YtgobdkgdhmkegaaLdrDefs
namespace Pl
def trimStep (c : Cnf) (out : List (List Int)) (i : Nat) : List (List Int) := if logOk c (out.take i ++ out.drop (i + 1)) = true then out.take i ++ out.drop (i + 1) else out
def trimF (c : Cnf) : Nat → List (List Int) → List (List Int)
  | 0, out => out
  | i + 1, out => trimF c i (trimStep c out i)
def logTrim (c : Cnf) (log : List (List Int)) : List (List Int) × Bool := if logOk c log = true ∧ logEnds log = true then (trimF c (log.length - 1) log, true) else ([], false)
def TrimI (c : Cnf) (log : List (List Int)) (n : Nat) (out : List (List Int)) : Prop :=
  n + 1 ≤ out.length ∧ out.length ≤ 130 ∧ (∀ x ∈ out, x.length ≤ 60) ∧ trimF c (log.length - 1) log = trimF c n out
end Pl
namespace Cg
open Go
abbrev TrOk (x : Pl.Cnf × List (List Int)) : Prop := SzC x.1 ∧ Sz x.2 ∧ ∀ y ∈ x.2, SzH y
def K_sLogTrim : Nat × Contract := (Nm.spec_LogTrim, .im (Pl.Cnf × List (List Int)) (fun x => [cnf x.1, intss x.2]) TrOk fun x => .tup [intss (Pl.logTrim x.1 x.2).1, bl (Pl.logTrim x.1 x.2).2])
def K_iLogTrim : Nat × Contract := (Nm.impl_LogTrim, .im (Pl.Cnf × List (List Int)) (fun x => [cnf x.1, intss x.2]) TrOk fun x => .tup [intss (Pl.logTrim x.1 x.2).1, bl (Pl.logTrim x.1 x.2).2])
def K_ownLogI : Nat × Contract := (Nm.impl_ownLog, .im (List (List Int)) (fun l => [intss l]) (fun l => l.length ≤ 1000 ∧ ∀ x ∈ l, x.length ≤ 1000) fun l => intss l)
def K_l11CopyZ : Nat × Contract := (Nm.spec_l11Copy, .efz (List (List Int)) (fun l => ⟨[intss l], []⟩) (fun l => l.length ≤ 1000 ∧ ∀ x ∈ l, x.length ≤ 1000) Unit (fun _ _ => True) fun l _ => (.osl 0 0 l.length, [xrII l]))
def K_yLogTrim : Nat × Contract := (Nm.laws_FnLogTrim, .sc (List Int) (fun b => [byts b]) Byt fun _ => bl true)

def A_ownLogI (l : List (List Int)) : List Ann :=
  [.mk Nat (fun x => x ≤ l.length) (fun x => { fr := pad [.any, .any, .any, .osl 0 0 x, .any, .any, intss l, i64 l.length, i64 x] 19, H := [arII (l.take x)] }) (fun x => l.length - x) (fun _ => [])]
def A_iLogTrim (c : Pl.Cnf) (log : List (List Int)) : List Ann :=
  [.mk (Nat × List (List Int)) (fun x => Pl.TrimI c log x.1 x.2) (fun x => { fr := pad [.any, intss log, .ptr 0 0, .any, .any, .any, intss x.2, i64 (x.1 - 1)] 41, H := [.var [i64 c.1, intss c.2]] }) (fun x => x.1) (fun _ => [])]
def A_sLogTrim (c : Pl.Cnf) (log : List (List Int)) : List Ann :=
  [.mk (Nat × List (List Int)) (fun x => Pl.TrimI c log x.1 x.2) (fun x => { fr := pad [.any, intss log, .ptr 0 0, .any, .any, .any, .osl 1 0 x.2.length, i64 (x.1 - 1)] 45, H := [.var [i64 c.1, intss c.2], arII x.2] }) (fun x => x.1) (fun _ => [])]
end Cg
