/-
  Plain functions, and what is known of the codes' callees and loops: searches. No condition.
-/
import Derived.Test.YtgobdkgdhmkegaaSrtDefs
import Derived.Test.YtgobdkgdhmkegaaCofDefs
namespace Pl
def marks (many : Int) : List Int := (List.range many.toNat).map fun (i : Nat) => (i : Int) + 1
/-- The first of some marks that is not put. -/
def freeL (put : List Int) : List Int → Int
  | [] => 0
  | m :: r => if at_ m put = 0 then m else freeL put r
def valsL (put l : List Int) : List Bool := l.map fun m => decide (at_ m put = 1)
/-- The clause that what was chosen can not be. -/
def note (ds : List Int) : List Int := (clauseOf (nots ds)).1
/-- What a search costs, notes, finds. -/
abbrev Hunt := Nat × List (List Int) × List Bool × Bool
def both (ds : List Int) (a b : Hunt) : Hunt :=
  if a.2.2.2 = true then (1 + a.1, a.2.1, a.2.2.1, true)
  else if b.2.2.2 = true then (1 + a.1 + b.1, a.2.1 ++ b.2.1, b.2.2.1, true)
  else (1 + a.1 + b.1, a.2.1 ++ b.2.1 ++ [note ds], [], false)
def next (c : Cnf) (ds : List Int) : Int := freeL (unitsS c.2 ds).1 (marks c.1)
def full (c : Cnf) : Nat → List Int → Hunt
  | 0, _ => (1, [], [], false)
  | k + 1, ds =>
    if (unitsS c.2 ds).2 = true then (1, [note ds], [], false)
    else if next c ds = 0 then (1, [], valsL (unitsS c.2 ds).1 (marks c.1), true)
    else both ds (full c k (ds ++ [-next c ds])) (full c k (ds ++ [next c ds]))
def hunt (c : Cnf) (ds : List Int) : Hunt := full c (61 - ds.length) ds
def huntRun (c : Cnf) (fuel : Int) : List Bool × List (List Int) × Bool :=
  if cnfOk c = true ∧ 0 ≤ fuel ∧ fuel ≤ 130 ∧ ((hunt c []).1 : Int) ≤ fuel then
    if (hunt c []).2.2.2 = true then ((hunt c []).2.2.1, [], true)
    else if c.2.length + (hunt c []).2.1.length > 400 then ([], [], false) else ([], (hunt c []).2.1, true)
  else ([], [], false)

/-- What the first of the two choices, and both, cost and note. -/
def one (c : Cnf) (ds : List Int) : Hunt := hunt c (ds ++ [-next c ds])
def two (c : Cnf) (ds : List Int) : Hunt := hunt c (ds ++ [next c ds])
def accC (c : Cnf) (ds : List Int) : Nat → Int
  | 0 => 1
  | 1 => 1 + (one c ds).1
  | _ => 1 + (one c ds).1 + (two c ds).1
def accL (c : Cnf) (ds : List Int) : Nat → List (List Int)
  | 0 => []
  | 1 => (one c ds).2.1
  | _ => (one c ds).2.1 ++ (two c ds).2.1
def walk (c : Cnf) (most : Int) (ds : List Int) : Int × Bool := if (hunt c ds).1 ≤ most then ((hunt c ds).1, (hunt c ds).2.2.2) else (most, false)
def costOf (c : Cnf) (most : Int) : Int := if most < 1 then 1 else (walk c (most + 1) []).1
def search (c : Cnf) (fuel : Int) : Int × List (List Int) × List Bool × Bool :=
  if (hunt c []).1 ≤ fuel then (fuel - (hunt c []).1, (hunt c []).2.1, (hunt c []).2.2.1, (hunt c []).2.2.2) else (-1, [], [], false)
/-- What is true of all marks, as clauses of one mark each. -/
def pins (vals : List Bool) : List (List Int) := (List.range vals.length).map fun (i : Nat) => [if vals.getD i false = true then (i : Int) + 1 else -((i : Int) + 1)]
abbrev Rgt (c : Cnf) (ds : List Int) : Prop := rightS c.1 [] ds = true
def WalkI (c : Cnf) (ds : List Int) (most : Int) (i : Nat) (n : Int) : Prop :=
  (i = 0 ∧ n = 1) ∨ (i = 1 ∧ ((n = accC c ds 1 ∧ accC c ds 1 ≤ most ∧ (one c ds).2.2.2 = false) ∨ (n = most ∧ accC c ds 1 > most))) ∨
  (i = 2 ∧ (one c ds).2.2.2 = false ∧ ((n = accC c ds 2 ∧ accC c ds 2 ≤ most ∧ (two c ds).2.2.2 = false) ∨ (n = most ∧ accC c ds 2 > most)))
def HuntI (c : Cnf) (ds : List Int) (fuel : Int) (log : List (List Int)) (i : Nat) (f : Int) (l : List (List Int)) : Prop :=
  i ≤ 2 ∧ accC c ds i ≤ fuel ∧ f = fuel - accC c ds i ∧ l = log ++ accL c ds i ∧ (0 < i → (one c ds).2.2.2 = false) ∧ (1 < i → (two c ds).2.2.2 = false)
/-- What a search of so much fuel leaves: fuel, log, whether it was not enough, what is found. -/
abbrev HY := Int × List (List Int) × Bool × List Bool × Bool
def HuntP (c : Cnf) (ds : List Int) (fuel : Int) (log : List (List Int)) (y : HY) : Prop :=
  ((hunt c ds).1 ≤ fuel → y = (fuel - (hunt c ds).1, log ++ (hunt c ds).2.1, false, (hunt c ds).2.2.1, (hunt c ds).2.2.2)) ∧
  (fuel < (hunt c ds).1 → y.2.2.1 = true ∧ y.2.2.2.1 = [] ∧ y.2.2.2.2 = false)
end Pl
namespace Cg
open Go
abbrev HOk (c : Pl.Cnf) (ds : List Int) : Prop := Pl.cnfOk c = true ∧ SzC c ∧ Pl.Rgt c ds
def lh (f : Int) (l : List (List Int)) : AV := .agg [i64 f, intss l]
def K_l11Free : Nat × Contract := (Nm.spec_l11Free, .sc (Pl.Cnf × List Int) (fun x => [cnf x.1, ints x.2]) (fun x => Pl.cnfOk x.1 = true ∧ Sz x.2) fun x => i64 (Pl.freeL x.2 (Pl.marks x.1.1)))
def K_l11Vals : Nat × Contract := (Nm.spec_l11Vals, .im (Pl.Cnf × List Int) (fun x => [cnf x.1, ints x.2]) (fun x => Pl.cnfOk x.1 = true ∧ Sz x.2) fun x => bools (Pl.valsL x.2 (Pl.marks x.1.1)))
def K_l11Note : Nat × Contract := (Nm.spec_l11Note, .imf (Int × List (List Int) × List Int) (fun x => [lh x.1 x.2.1, ints x.2.2]) (fun x => x.2.1.length ≤ 1000 ∧ x.2.2.length ≤ 1000) fun x => lh x.1 (x.2.1 ++ [Pl.note x.2.2]))
abbrev FX := Pl.Cnf × Int × List (List Int) × List Int
abbrev FOk (x : FX) : Prop := HOk x.1 x.2.2.2 ∧ (Pl.hunt x.1 x.2.2.2).1 ≤ x.2.1 ∧ x.2.1 ≤ 130 ∧ x.2.2.1.length + x.2.1 ≤ 1000
def K_l11Find (n : Nat) : Nat × Contract := (Nm.spec_l11Find, .imf FX (fun x => [cnf x.1, lh x.2.1 x.2.2.1, ints x.2.2.2]) (fun x => FOk x ∧ 61 - x.2.2.2.length < n)
  fun x => .tup [lh (x.2.1 - (Pl.hunt x.1 x.2.2.2).1) (x.2.2.1 ++ (Pl.hunt x.1 x.2.2.2).2.1), bools (Pl.hunt x.1 x.2.2.2).2.2.1, bl (Pl.hunt x.1 x.2.2.2).2.2.2])
def K_l11FindA : Nat × Contract := (Nm.spec_l11Find, .imf FX (fun x => [cnf x.1, lh x.2.1 x.2.2.1, ints x.2.2.2]) FOk
  fun x => .tup [lh (x.2.1 - (Pl.hunt x.1 x.2.2.2).1) (x.2.2.1 ++ (Pl.hunt x.1 x.2.2.2).2.1), bools (Pl.hunt x.1 x.2.2.2).2.2.1, bl (Pl.hunt x.1 x.2.2.2).2.2.2])
abbrev WX := Pl.Cnf × Int × List Int
abbrev WOk (x : WX) : Prop := HOk x.1 x.2.2 ∧ 1 ≤ x.2.1 ∧ x.2.1 ≤ 131
def K_l11Walk (n : Nat) : Nat × Contract := (Nm.spec_l11Walk, .sc WX (fun x => [cnf x.1, i64 x.2.1, ints x.2.2]) (fun x => WOk x ∧ 61 - x.2.2.length < n) fun x => .tup [i64 (Pl.walk x.1 x.2.1 x.2.2).1, bl (Pl.walk x.1 x.2.1 x.2.2).2])
def K_l11WalkA : Nat × Contract := (Nm.spec_l11Walk, .sc WX (fun x => [cnf x.1, i64 x.2.1, ints x.2.2]) WOk fun x => .tup [i64 (Pl.walk x.1 x.2.1 x.2.2).1, bl (Pl.walk x.1 x.2.1 x.2.2).2])
def K_l11Cost : Nat × Contract := (Nm.spec_l11Cost, .sc (Pl.Cnf × Int) (fun x => [cnf x.1, i64 x.2, ints []]) (fun x => Pl.cnfOk x.1 = true ∧ SzC x.1 ∧ 0 ≤ x.2 ∧ x.2 ≤ 130) fun x => i64 (Pl.costOf x.1 x.2))
def K_l11Search : Nat × Contract := (Nm.spec_l11Search, .im (Pl.Cnf × Int) (fun x => [cnf x.1, i64 x.2]) (fun x => Pl.cnfOk x.1 = true ∧ SzC x.1 ∧ 0 ≤ x.2 ∧ x.2 ≤ 130) fun x => .tup [lh (Pl.search x.1 x.2).1 (Pl.search x.1 x.2).2.1, bools (Pl.search x.1 x.2).2.2.1, bl (Pl.search x.1 x.2).2.2.2])
def K_sHuntRun : Nat × Contract := (Nm.spec_HuntRun, .im (Pl.Cnf × Int) (fun x => [cnf x.1, i64 x.2]) (fun x => SzC x.1) fun x => .tup [bools (Pl.huntRun x.1 x.2).1, intss (Pl.huntRun x.1 x.2).2.1, bl (Pl.huntRun x.1 x.2).2.2])
abbrev hcY := Pl.HY
def hunO (c : Pl.Cnf) (f : Int) (log : AV) (out : Bool) : AObj := .var [i64 c.1, intss c.2, i64 f, log, bl out]
abbrev COk (x : FX) : Prop := HOk x.1 x.2.2.2 ∧ 0 ≤ x.2.1 ∧ x.2.1 ≤ 130 ∧ x.2.2.1.length + x.2.1 ≤ 1000
def K_hcall (n : Nat) : Nat × Contract := (Nm.impl_hunt_call, .efz FX (fun x => ⟨[.ptr 0 0, ints x.2.2.2], [hunO x.1 x.2.1 (.osl 1 0 x.2.2.1.length) false, arII x.2.2.1]⟩) (fun x => COk x ∧ 61 - x.2.2.2.length < n) Pl.HY (fun x y => Pl.HuntP x.1 x.2.2.2 x.2.1 x.2.2.1 y)
  fun x y => (.tup [bools y.2.2.2.1, bl y.2.2.2.2], [hunO x.1 y.1 (.osl 2 0 y.2.1.length) y.2.2.1, .dead, arII y.2.1]))
def K_hcallA : Nat × Contract := (Nm.impl_hunt_call, .efz FX (fun x => ⟨[.ptr 0 0, ints x.2.2.2], [hunO x.1 x.2.1 (.osl 1 0 x.2.2.1.length) false, arII x.2.2.1]⟩) COk Pl.HY (fun x y => Pl.HuntP x.1 x.2.2.2 x.2.1 x.2.2.1 y)
  fun x y => (.tup [bools y.2.2.2.1, bl y.2.2.2.2], [hunO x.1 y.1 (.osl 2 0 y.2.1.length) y.2.2.1, .dead, arII y.2.1]))
def K_iHuntRun : Nat × Contract := (Nm.impl_HuntRun, .im (Pl.Cnf × Int) (fun x => [cnf x.1, i64 x.2]) (fun x => SzC x.1) fun x => .tup [bools (Pl.huntRun x.1 x.2).1, intss (Pl.huntRun x.1 x.2).2.1, bl (Pl.huntRun x.1 x.2).2.2])
def K_iHuntRunF : Nat × Contract := (Nm.impl_HuntRun, .imf (Pl.Cnf × Int) (fun x => [cnf x.1, i64 x.2]) (fun x => SzC x.1) fun x => .tup [bools (Pl.huntRun x.1 x.2).1, intss (Pl.huntRun x.1 x.2).2.1, bl (Pl.huntRun x.1 x.2).2.2])
def K_DrawHuntRun : Nat × Contract := (Nm.spec_DrawHuntRun, .eff (List Int) (fun b => ⟨[byts b], []⟩) (fun b => Sz b ∧ Byt b) (Pl.Cnf × Int) (fun _ y => Sm y.1) fun _ y => (.tup [cnf y.1, i64 y.2], []))
def K_wpBools : Nat × Contract := (Nm.laws_wpBools, .sc (List Bool × List Bool) (fun x => [bools x.1, bools x.2]) (fun x => Sz x.1) fun x => bl (decide (x.1 = x.2)))
def K_wpLog : Nat × Contract := (Nm.laws_wpLog, .sc (List (List Int) × List (List Int)) (fun x => [intss x.1, intss x.2]) (fun x => Sz x.1 ∧ ∀ y ∈ x.1, Sz y) fun x => bl (decide (x.1 = x.2)))
def K_yHuntRun : Nat × Contract := (Nm.laws_FnHuntRun, .sc (List Int) (fun b => [byts b]) Byt fun _ => bl true)
def K_yHuntBent : Nat × Contract := (Nm.laws_FnHuntBent, .sc (List Int) (fun b => [byts b]) Byt fun _ => bl true)
def K_yHuntFuel : Nat × Contract := (Nm.laws_FnHuntFuel, .sc (List Int) (fun b => [byts b]) Byt fun _ => bl true)
def K_yHuntOnly : Nat × Contract := (Nm.laws_FnHuntOnly, .sc (List Int) (fun b => [byts b]) Byt fun _ => bl true)

def A_l11Free (c : Pl.Cnf) (put : List Int) : List Ann :=
  [.mk Nat (fun x => (x : Int) ≤ c.1 ∧ Pl.freeL put (Pl.marks c.1) = Pl.freeL put ((Pl.marks c.1).drop x)) (fun x => { fr := pad [.any, ints put, .ptr 0 0, .any, .any, i64 (x + 1)] 17, H := [.var [i64 c.1, intss c.2]] }) (fun x => (c.1 - x).toNat) (fun _ => [])]
def A_l11Vals (c : Pl.Cnf) (put : List Int) : List Ann :=
  [.mk (Nat × List Bool) (fun x => (x.1 : Int) ≤ c.1 ∧ x.2.length = x.1 ∧ Pl.valsL put (Pl.marks c.1) = x.2 ++ Pl.valsL put ((Pl.marks c.1).drop x.1)) (fun x => { fr := pad [.any, ints put, .ptr 0 0, .any, .any, .osl 1 0 x.2.length, i64 (x.1 + 1)] 22, H := [.var [i64 c.1, intss c.2], arB x.2] }) (fun x => (c.1 - x.1).toNat) (fun _ => [])]
def A_l11Find (c : Pl.Cnf) (fuel : Int) (log : List (List Int)) (ds : List Int) : List Ann :=
  [.mk (Nat × Int × List (List Int)) (fun x => Pl.HuntI c ds fuel log x.1 x.2.1 x.2.2) (fun x => { fr := pad [.any, .any, ints ds, .ptr 0 0, .ptr 1 0, .any, .ptr 2 0, .any, .any, .any, .any, i64 (Pl.next c ds), i64 x.1] 79, H := [.var [i64 c.1, intss c.2], .var [i64 x.2.1, intss x.2.2], .var [i64 0, nilA]] }) (fun x => 2 - x.1) (fun _ => [])]
def A_l11Walk (c : Pl.Cnf) (most : Int) (ds : List Int) : List Ann :=
  [.mk (Nat × Int) (fun x => Pl.WalkI c ds most x.1 x.2) (fun x => { fr := pad [.any, i64 most, ints ds, .ptr 0 0, .any, .any, .any, .any, .any, .any, i64 (Pl.next c ds), i64 x.2, i64 x.1] 72, H := [.var [i64 c.1, intss c.2]] }) (fun x => 2 - x.1) (fun _ => [])]
def A_hcall (c : Pl.Cnf) (fuel : Int) (log : List (List Int)) (ds : List Int) : List Ann :=
  [.mk (Nat × Int × List Bool) (fun x => (x.1 : Int) ≤ c.1 ∧ x.2.1 = Pl.freeL (Pl.unitsS c.2 ds).1 ((Pl.marks c.1).drop x.1) ∧ x.2.2 = List.replicate x.1 false ++ Pl.valsL (Pl.unitsS c.2 ds).1 ((Pl.marks c.1).drop x.1))
    (fun x => { fr := pad [.ptr 0 0, ints ds, .any, .any, .any, .any, ints (Pl.unitsS c.2 ds).1, .any, i64 x.2.1, .osl 2 0 x.2.2.length, i64 x.1] 122, H := [hunO c (fuel - 1) (.osl 1 0 log.length) false, arII log, arB x.2.2] }) (fun x => x.1) (fun _ => []),
   .mk (Nat × Int × List (List Int)) (fun x => Pl.HuntI c ds fuel log x.1 x.2.1 x.2.2)
    (fun x => { fr := (pad [.ptr 0 0, ints ds] 80) ++ pad [ints [-Pl.next c ds, Pl.next c ds], i64 2, i64 x.1] 42, H := [hunO c x.2.1 (.osl 2 0 x.2.2.length) false, .dead, arII x.2.2] }) (fun x => 2 - x.1) (fun _ => [])]
def A_wpBools (l m : List Bool) : List Ann :=
  [.mk Nat (fun x => x ≤ l.length ∧ l.length = m.length ∧ (l = m ↔ l.drop x = m.drop x)) (fun x => { fr := pad [bools l, bools m, .any, .any, .any, i64 x] 26, H := [] }) (fun x => l.length - x) (fun _ => [])]
def A_wpLog (l m : List (List Int)) : List Ann :=
  [.mk Nat (fun x => x ≤ l.length ∧ l.length = m.length ∧ (l = m ↔ l.drop x = m.drop x)) (fun x => { fr := pad [intss l, intss m, .any, .any, .any, i64 x] 27, H := [] }) (fun x => l.length - x) (fun _ => [])]
def A_yHuntOnly : List Ann :=
  [.mk (Pl.Cnf × List Bool × Nat) (fun x => Sm x.1 ∧ Pl.cnfIs x.1 x.2.1 = true ∧ x.2.1.length ≤ 60 ∧ x.2.2 ≤ x.2.1.length)
    (fun x => { fr := pad [.any, .any, .any, .ptr 0 0, .any, bools x.2.1, .any, .any, .any, .any, .any, .ptr 1 0, i64 x.2.2] 95, H := [.var [i64 x.1.1, intss x.1.2], .var [i64 x.1.1, .osl 2 0 (x.1.2 ++ (Pl.pins x.2.1).take x.2.2).length], arII (x.1.2 ++ (Pl.pins x.2.1).take x.2.2)] }) (fun x => x.2.1.length - x.2.2) (fun _ => [])]
end Cg
