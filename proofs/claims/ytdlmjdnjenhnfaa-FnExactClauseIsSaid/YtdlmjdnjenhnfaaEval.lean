/-
  The abstract machine's steps: what an operation, a region, a function's code does to an abstract state; what is left to show is handed on as a proposition. No condition.
-/
import Derived.Test.YtdlmjdnjenhnfaaCore
namespace Cg
open Go

structure St where
  fr : List AV
  H : List AObj

def St.put (s : St) (d : Option Tmp) (a : AV) : St := match d with
  | some d => { s with fr := s.fr.set d a }
  | none => s

def nilA : AV := .lit 0 1 fun _ _ => .any

def ofCell : Value → AV
  | .slice none 0 0 => nilA
  | x => .v x

def ofConst : Value → AV
  | .slice none 0 0 => nilA
  | .agg cs => .agg (cs.toList.map ofCell)
  | x => .v x

def ev (fr : List AV) : Operand → AV
  | .tmp t => fr.getD t .any
  | .const x => ofConst x
  | .global _ => .any
  | .func f => .fn (.func f) []

/-- A value's cells. -/
def cellsA : AV → Option (List AV)
  | .agg cs => some cs
  | .tup _ => none
  | .any => none
  | .v x => bif isOne x then some [.v x] else none
  | a => some [a]

def rowsCell (rows : List (List AV)) : Nat → Nat → AV := fun i j => (rows.getD i []).getD j .any

/-- What is to be shown on the way, and what comes out. -/
abbrev R := Option (List Prop × AV)
def ok (a : AV) : R := some ([], a)
def okIf (p : Prop) (a : AV) : R := some ([p], a)

def need : List Prop → Prop → Prop
  | [], k => k
  | p :: r, k => p ∧ need r k

/-- What the call owns, seen as something that stays as it is. -/
def view0 (H : List AObj) : AV → List Prop × AV
  | .osl o lo n => match H.getD o .dead with
    | .arr m esz cell => ([lo + n ≤ m], .sl n esz (fun i j => cell (i + lo) j))
    | .fro m esz cell => ([lo + n ≤ m], .sl n esz (fun i j => cell (i + lo) j))
    | _ => ([], .any)
  | .v x => ([], .v x)
  | .sl n esz cell => ([], .sl n esz cell)
  | .lit n esz cell => ([], .lit n esz cell)
  | _ => ([], .any)

def viewL (f : AV → List Prop × AV) : List AV → List Prop × List AV
  | [] => ([], [])
  | a :: r => match f a, viewL f r with
    | (p, a'), (q, r') => (p ++ q, a' :: r')

def view1 (H : List AObj) : AV → List Prop × AV
  | .ptr o off => match H.getD o .dead with
    | .var cs => match viewL (view0 H) cs with
      | (p, cs') => (p, .el 1 cs'.length (fun _ j => cs'.getD j .any) 0 off)
    | _ => ([], .any)
  | .el n esz cell i off => ([], .el n esz cell i off)
  | a => view0 H a

def view2 (H : List AObj) : AV → List Prop × AV
  | .agg cs => match viewL (view0 H) cs with
    | (p, cs') => (p, .agg cs')
  | .tup cs => match viewL (view0 H) cs with
    | (p, cs') => (p, .tup cs')
  | .fn f cs => match viewL (view1 H) cs with
    | (p, cs') => (p, .fn f cs')
  | a => view1 H a

/-- How a callee is known: by a scalar that it computes, by what it computes (it keeps nothing of what the caller may still write), or by what it does. -/
inductive Contract where
  | sc (F : List AV → R)
  | im (F : List AV → R)
  | eff (T : List AV → List AObj → (AV → List AObj → Prop) → Prop)

abbrev Ctx := List (Nat × Contract)

def lookC : List (Nat × Contract) → Nat → Option Contract
  | [], _ => none
  | (g, c) :: r, f => bif Nat.beq g f then some c else lookC r f

def isScalar : AV → Bool
  | .v _ => true
  | .tup cs => cs.all fun | .v _ => true | _ => false
  | .agg cs => cs.all fun | .v _ => true | _ => false
  | _ => false

section
variable (P : Program)

def fieldOf (t : TypeId) (f : Nat) : Option Field := match P.underlying t with
  | some (.struct fs) => fs[f]?
  | _ => none

def elemOf (t : TypeId) : Option TypeId := match P.underlying t with
  | some (.slice e) => some e
  | _ => none

def aggT (t : TypeId) : Option Bool := match P.underlying t with
  | some (.struct _) => some true
  | some (.array _ _) => some true
  | some _ => some false
  | none => none

def zeroCells (t : TypeId) : Option (List AV) := match P.info? t with
  | some i => match i.zero with
    | some z => cellsA (ofConst z)
    | none => none
  | none => none

def rangeCells (f : Nat → AV) : Nat → Nat → List AV
  | _, 0 => []
  | k, n + 1 => f k :: rangeCells f (k + 1) n

/-- The cells behind a pointer. -/
def cellsAt (H : List AObj) (a : AV) (n : Nat) : Option (List Prop × List AV) := match a with
  | .ptr o off => match H.getD o .dead with
    | .var cs => bif Nat.ble (off + n) cs.length then some ([], (cs.drop off).take n) else none
    | _ => none
  | .el m esz cell i off => bif Nat.ble (off + n) esz then some ([i < m], rangeCells (cell i) off n) else none
  | .oel o i off => match H.getD o .dead with
    | .arr m esz cell => bif Nat.ble (off + n) esz then some ([i < m], rangeCells (cell i) off n) else none
    | .fro m esz cell => bif Nat.ble (off + n) esz then some ([i < m], rangeCells (cell i) off n) else none
    | _ => none
  | _ => none

def loadA (H : List AObj) (t : TypeId) (a : AV) : R := match aggT P t with
  | some true => match cellsAt H a (P.cellsOf t) with
    | some (p, cs) => some (p, .agg cs)
    | none => none
  | some false => match cellsAt H a 1 with
    | some (p, [c]) => some (p, c)
    | _ => none
  | none => none

def fillA : List AV → Nat → List AV → List AV
  | cs, _, [] => cs
  | cs, k, a :: r => fillA (cs.set k a) (k + 1) r

def buildA (fs : Array Field) : List AV → List (Nat × AV) → Option (List AV)
  | cs, [] => some cs
  | cs, (i, a) :: r => match fs[i]?, cellsA a with
    | some f, some vs => bif Nat.beq vs.length (P.cellsOf f.type) && Nat.ble (f.offset + vs.length) cs.length then buildA fs (fillA cs f.offset vs) r else none
    | _, _ => none

def isImm : AV → Bool
  | .v _ => true
  | .any => true
  | .sl _ _ _ => true
  | .lit _ _ _ => true
  | _ => false

/-- What fills one cell. -/
def oneA : AV → Bool
  | .v x => isOne x
  | .any => false
  | .agg _ => false
  | .tup _ => false
  | _ => true

def sliceRows (size : Nat) : List (List AV) → List (Nat × AV) → Option (List (List AV))
  | rows, [] => some rows
  | rows, (i, a) :: r => match cellsA a with
    | some vs => bif Nat.beq vs.length size && Nat.blt i rows.length && vs.all isImm && vs.all oneA then sliceRows size (rows.set i vs) r else none
    | none => none

def ikIdx : IntKind → Nat
  | .i8 => 0
  | .i16 => 1
  | .i32 => 2
  | .i64 => 3
  | .u8 => 4
  | .u16 => 5
  | .u32 => 6
  | .u64 => 7

def aBin (op : BinOp) (t : TypeId) (a b : AV) : R := match op, a, b with
  | .add, .v (.int k x), .v (.int k' y) => bif Nat.beq (ikIdx k) (ikIdx k') then ok (.v (.int k (k.wrap (x + y)))) else none
  | .sub, .v (.int k x), .v (.int k' y) => bif Nat.beq (ikIdx k) (ikIdx k') then ok (.v (.int k (k.wrap (x - y)))) else none
  | .mul, .v (.int k x), .v (.int k' y) => bif Nat.beq (ikIdx k) (ikIdx k') then ok (.v (.int k (k.wrap (x * y)))) else none
  | .quo, .v (.int k x), .v (.int k' y) => bif Nat.beq (ikIdx k) (ikIdx k') then okIf (y ≠ 0) (.v (.int k (k.wrap (x.tdiv y)))) else none
  | .rem, .v (.int k x), .v (.int k' y) => bif Nat.beq (ikIdx k) (ikIdx k') then okIf (y ≠ 0) (.v (.int k (x.tmod y))) else none
  | .xor, .v (.int k x), .v (.int k' y) => bif Nat.beq (ikIdx k) (ikIdx k') then ok (.v (.int k (k.wrap (BitVec.ofInt k.bits x ^^^ BitVec.ofInt k.bits y).toNat))) else none
  | .and, .v (.int k x), .v (.int k' y) => bif Nat.beq (ikIdx k) (ikIdx k') then ok (.v (.int k (k.wrap (BitVec.ofInt k.bits x &&& BitVec.ofInt k.bits y).toNat))) else none
  | .or, .v (.int k x), .v (.int k' y) => bif Nat.beq (ikIdx k) (ikIdx k') then ok (.v (.int k (k.wrap (BitVec.ofInt k.bits x ||| BitVec.ofInt k.bits y).toNat))) else none
  | .shl, .v (.int k x), .v (.int _ y) => okIf (0 ≤ y) (.v (.int k (k.wrap (x * 2 ^ (min y.toNat k.bits)))))
  | .shr, .v (.int k x), .v (.int _ y) => okIf (0 ≤ y) (.v (.int k (x.fdiv (2 ^ (min y.toNat k.bits)))))
  | .eql, .v (.int k x), .v (.int k' y) => bif Nat.beq (ikIdx k) (ikIdx k') then ok (.v (.bool (x == y))) else none
  | .neq, .v (.int k x), .v (.int k' y) => bif Nat.beq (ikIdx k) (ikIdx k') then ok (.v (.bool (x != y))) else none
  | .lss, .v (.int k x), .v (.int k' y) => bif Nat.beq (ikIdx k) (ikIdx k') then ok (.v (.bool (decide (x < y)))) else none
  | .leq, .v (.int k x), .v (.int k' y) => bif Nat.beq (ikIdx k) (ikIdx k') then ok (.v (.bool (decide (x ≤ y)))) else none
  | .gtr, .v (.int k x), .v (.int k' y) => bif Nat.beq (ikIdx k) (ikIdx k') then ok (.v (.bool (decide (x > y)))) else none
  | .geq, .v (.int k x), .v (.int k' y) => bif Nat.beq (ikIdx k) (ikIdx k') then ok (.v (.bool (decide (x ≥ y)))) else none
  | .add, .v (.string x), .v (.string y) => okIf (((x.size + y.size : Nat) : Int) ≤ 9223372036854775807) (.v (.string (x ++ y)))
  | .eql, .v (.string x), .v (.string y) => ok (.v (.bool (x.toList == y.toList)))
  | .neq, .v (.string x), .v (.string y) => ok (.v (.bool (!(x.toList == y.toList))))
  | .lss, .v (.string x), .v (.string y) => ok (.v (.bool (Op.bytesLess x.toList y.toList)))
  | .leq, .v (.string x), .v (.string y) => ok (.v (.bool (Op.bytesLess x.toList y.toList || x.toList == y.toList)))
  | .gtr, .v (.string x), .v (.string y) => ok (.v (.bool (!(Op.bytesLess x.toList y.toList || x.toList == y.toList))))
  | .geq, .v (.string x), .v (.string y) => ok (.v (.bool (!(Op.bytesLess x.toList y.toList))))
  | .eql, .v (.bool x), .v (.bool y) => match P.underlying t with
    | some .bool => ok (.v (.bool (x == y)))
    | _ => none
  | .neq, .v (.bool x), .v (.bool y) => match P.underlying t with
    | some .bool => ok (.v (.bool (!(x == y))))
    | _ => none
  | _, _, _ => none

def aUn (op : UnOp) (a : AV) : R := match op, a with
  | .neg, .v (.int k x) => ok (.v (.int k (k.wrap (0 - x))))
  | .not, .v (.bool b) => ok (.v (.bool !b))
  | _, _ => none

def aConv (src dst : TypeId) (a : AV) : R := match P.underlying src, P.underlying dst, a with
  | some (.int _), some (.int k), .v (.int _ n) => ok (.v (.int k (k.wrap n)))
  | some .string, some .string, .v (.string s) => ok (.v (.string s))
  | _, _, _ => none

/-- The rows of a slice, seen as they are. -/
def rowsOf (H : List AObj) : AV → Option (List Prop × Nat × Nat × (Nat → Nat → AV))
  | .sl n esz cell => some ([], n, esz, cell)
  | .lit n esz cell => some ([], n, esz, cell)
  | .osl o lo n => match H.getD o .dead with
    | .arr m esz cell => some ([lo + n ≤ m], n, esz, fun i j => cell (i + lo) j)
    | .fro m esz cell => some ([lo + n ≤ m], n, esz, fun i j => cell (i + lo) j)
    | _ => none
  | _ => none

def eszOf (H : List AObj) (o : Nat) : Nat := match H.getD o .dead with
  | .arr _ e _ => e
  | .fro _ e _ => e
  | _ => 0

def aIndexAddr (H : List AObj) (t : TypeId) (x i : AV) : R := match elemOf P t, x, i with
  | some e, .sl n esz cell, .v (.int _ k) => bif Nat.beq esz (P.cellsOf e) && Nat.blt 0 esz then okIf (0 ≤ k ∧ k < (n : Int)) (.el n esz cell k.toNat 0) else none
  | some e, .lit n esz cell, .v (.int _ k) => bif Nat.beq esz (P.cellsOf e) && Nat.blt 0 esz then okIf (0 ≤ k ∧ k < (n : Int)) (.el n esz cell k.toNat 0) else none
  | some e, .osl o lo n, .v (.int _ k) => bif Nat.beq (eszOf H o) (P.cellsOf e) && Nat.blt 0 (P.cellsOf e) then okIf (0 ≤ k ∧ k < (n : Int)) (.oel o (k.toNat + lo) 0) else none
  | _, _, _ => none

def aFieldAddr (t : TypeId) (x : AV) (f : Nat) : R := match fieldOf P t f with
  | some fd => bif Nat.beq (P.cellsOf fd.type) 0 then none else match x with
    | .ptr o off => ok (.ptr o (off + fd.offset))
    | .el n esz cell i off => ok (.el n esz cell i (off + fd.offset))
    | .oel o i off => ok (.oel o i (off + fd.offset))
    | _ => none
  | none => none

def aField (t : TypeId) (x : AV) (f : Nat) : R := match fieldOf P t f, x with
  | some fd, .agg cs => match aggT P fd.type with
    | some true => ok (.agg ((cs.drop fd.offset).take (P.cellsOf fd.type)))
    | some false => match cs.drop fd.offset with
      | c :: _ => ok c
      | [] => none
    | none => none
  | _, _ => none

def aIndex (t : TypeId) (x i : AV) : R := match P.underlying t, x, i with
  | some .string, .v (.string s), .v (.int _ k) => okIf (0 ≤ k ∧ k < (s.size : Int)) (.v (.int .u8 ((s.data.getD k.toNat 0).toNat : Int)))
  | _, _, _ => none

/-- A slice of a slice or a string. -/
def aSlice (H : List AObj) (t : TypeId) (x : AV) (lo hi mx : Option AV) : R := match mx with
  | none => match P.underlying t, x, lo, hi with
    | some .string, .v (.string s), none, some (.v (.int _ h)) => okIf (0 ≤ h ∧ h ≤ (s.size : Int)) (.v (.string (s.extract 0 h.toNat)))
    | some .string, .v (.string s), some (.v (.int _ l)), none => okIf (0 ≤ l ∧ l ≤ (s.size : Int)) (.v (.string (s.extract l.toNat s.size)))
    | some .string, .v (.string s), some (.v (.int _ l)), some (.v (.int _ h)) => okIf (0 ≤ l ∧ l ≤ h ∧ h ≤ (s.size : Int)) (.v (.string (s.extract l.toNat h.toNat)))
    | some (.slice e), .sl n esz cell, none, some (.v (.int _ h)) => bif Nat.beq esz (P.cellsOf e) && Nat.blt 0 esz then okIf (0 ≤ h ∧ h ≤ (n : Int)) (.sl h.toNat esz cell) else none
    | some (.slice e), .sl n esz cell, some (.v (.int _ l)), none => bif Nat.beq esz (P.cellsOf e) && Nat.blt 0 esz then okIf (0 ≤ l ∧ l ≤ (n : Int)) (.sl (n - l.toNat) esz (fun i j => cell (i + l.toNat) j)) else none
    | some (.slice e), .sl n esz cell, some (.v (.int _ l)), some (.v (.int _ h)) => bif Nat.beq esz (P.cellsOf e) && Nat.blt 0 esz then okIf (0 ≤ l ∧ l ≤ h ∧ h ≤ (n : Int)) (.sl (h.toNat - l.toNat) esz (fun i j => cell (i + l.toNat) j)) else none
    | some (.slice e), .osl o b n, none, some (.v (.int _ h)) => bif Nat.beq (eszOf H o) (P.cellsOf e) && Nat.blt 0 (P.cellsOf e) then okIf (0 ≤ h ∧ h ≤ (n : Int)) (.osl o b h.toNat) else none
    | some (.slice e), .osl o b n, some (.v (.int _ l)), none => bif Nat.beq (eszOf H o) (P.cellsOf e) && Nat.blt 0 (P.cellsOf e) then okIf (0 ≤ l ∧ l ≤ (n : Int)) (.osl o (l.toNat + b) (n - l.toNat)) else none
    | some (.slice e), .osl o b n, some (.v (.int _ l)), some (.v (.int _ h)) => bif Nat.beq (eszOf H o) (P.cellsOf e) && Nat.blt 0 (P.cellsOf e) then okIf (0 ≤ l ∧ l ≤ h ∧ h ≤ (n : Int)) (.osl o (l.toNat + b) (h.toNat - l.toNat)) else none
    | _, _, _, _ => none
  | some m => match P.underlying t, x, lo, hi, m with
    | some (.slice e), .sl _ _ _, none, some (.v (.int _ h)), .v (.int _ c) => bif Nat.blt 0 (P.cellsOf e) then okIf (h = 0 ∧ c = 0) nilA else none
    | _, _, _, _, _ => none

def asSl : AV → AV
  | .lit n esz cell => .sl n esz cell
  | a => a

def aLen (t : TypeId) (a : AV) : R := match P.underlying t, a with
  | some (.slice _), .sl n _ _ => ok (.v (.int .i64 n))
  | some (.slice _), .lit n _ _ => ok (.v (.int .i64 n))
  | some (.slice _), .osl _ _ n => ok (.v (.int .i64 n))
  | some .string, .v (.string s) => ok (.v (.int .i64 s.size))
  | _, _ => none

def aCap (t : TypeId) (a : AV) : R := match P.underlying t, a with
  | some (.slice _), .lit n _ _ => ok (.v (.int .i64 n))
  | _, _ => none

def aBuiltin (b : Builtin) (ts : Array TypeId) (args : List AV) : R := match b, ts.toList, args with
  | .len, [t], [a] => aLen P t a
  | .cap, [t], [a] => aCap P t a
  | .max, _, [.v (.int k x), .v (.int k' y)] => bif Nat.beq (ikIdx k) (ikIdx k') then ok (.v (.int k (if y > x then y else x))) else none
  | .min, _, [.v (.int k x), .v (.int k' y)] => bif Nat.beq (ikIdx k) (ikIdx k') then ok (.v (.int k (if y < x then y else x))) else none
  | _, _, _ => none

def aPick (c a b : AV) : R := match c, a, b with
  | .v (.bool true), a, _ => ok a
  | .v (.bool false), _, b => ok b
  | _, _, _ => none

def pairsA (fr : List AV) (ps : Array (Nat × Operand)) : List (Nat × AV) := ps.toList.map fun (i, x) => (i, ev fr x)

/-- What names no object. -/
def immA : AV → Bool
  | .agg cs => cs.all isImm
  | .tup cs => cs.all isImm
  | .fn _ cs => cs.all fun | .el _ _ _ _ _ => true | a => isImm a
  | .el _ _ _ _ _ => true
  | a => isImm a
def immL (l : List AV) : Bool := l.all immA

def aCall (Γ : Ctx) (H : List AObj) (f : AV) (args : List AV) : R := match f with
  | .fn (.func g) caps => match lookC Γ g with
    | some (.sc F) => match viewL (view2 H) (args ++ caps) with
      | (q, vs) => match F vs with
        | some (p, r) => bif isScalar r then some (q ++ p, r) else none
        | none => none
    | some (.im F) => bif immL (args ++ caps) then match F (args ++ caps) with
      | some (p, r) => bif immA r then some (p, r) else none
      | none => none
      else none
    | _ => none
  | _ => none

/-- Quiet operations: what they yield, and what they ask. -/
def aq (Γ : Ctx) (op : Op) (fr : List AV) (H : List AObj) : R := match op with
  | .move x => ok (ev fr x)
  | .assign x => ok (ev fr x)
  | .pick c a b => aPick (ev fr c) (ev fr a) (ev fr b)
  | .build t parts => match P.underlying t, zeroCells P t with
    | some (.struct fs), some z => bif fs.toList.all (fun f => (P.info? f.type).isSome) then match buildA P fs z (pairsA fr parts) with
      | some cs => ok (.agg cs)
      | none => none
      else none
    | _, _ => none
  | .buildSlice t len parts => match elemOf P t with
    | some e => match zeroCells P e with
      | some z => match sliceRows (P.cellsOf e) (List.replicate len z) (pairsA fr parts) with
        | some rows => bif Nat.beq z.length (P.cellsOf e) && Nat.blt 0 z.length && z.all isImm && z.all oneA && Nat.ble (len * P.cellsOf e) 16777216 then ok (.lit len (P.cellsOf e) (rowsCell rows)) else none
        | none => none
      | none => none
    | none => none
  | .load t a => loadA P H t (ev fr a)
  | .nilCheck x => match ev fr x with
    | .ptr o off => ok (.ptr o off)
    | .el n esz cell i off => ok (.el n esz cell i off)
    | .oel o i off => ok (.oel o i off)
    | _ => none
  | .binOp op t x y _ => aBin P op t (ev fr x) (ev fr y)
  | .unOp op _ x => aUn op (ev fr x)
  | .convert s d x => aConv P s d (ev fr x)
  | .makeFunc fn first captured => bif first.isEmpty then ok (.fn fn (captured.toList.map (ev fr))) else none
  | .slice t x lo hi mx => aSlice P H t (asSl (ev fr x)) (lo.map (ev fr)) (hi.map (ev fr)) (mx.map (ev fr))
  | .fieldAddr t x f => aFieldAddr P t (ev fr x) f
  | .field t x f => aField P t (ev fr x) f
  | .indexAddr t x i => aIndexAddr P H t (ev fr x) (ev fr i)
  | .index t x i => aIndex P t (ev fr x) (ev fr i)
  | .extract t i => match ev fr t with
    | .tup cs => match cs[i]? with
      | some a => ok a
      | none => none
    | _ => none
  | .call c => match c.callee with
    | .builtin b => aBuiltin P b c.argTypes (c.args.toList.map (ev fr))
    | .value f => aCall Γ H (ev fr f) (c.args.toList.map (ev fr))
    | .invoke _ _ => none
  | _ => none

mutual
/-- Does an object's name occur? -/
def ment (o : Nat) : AV → Bool
  | .agg cs => mentL o cs
  | .tup cs => mentL o cs
  | .fn _ cs => mentL o cs
  | .ptr o' _ => Nat.beq o o'
  | .osl o' _ _ => Nat.beq o o'
  | .oel o' _ _ => Nat.beq o o'
  | _ => false
def mentL (o : Nat) : List AV → Bool
  | [] => false
  | a :: r => ment o a || mentL o r
end

/-- A name that stands for nothing any longer. -/
def kill (o : Nat) (a : AV) : AV := bif ment o a then .any else a

def killObj (o : Nat) : AObj → AObj
  | .var cs => .var (cs.map (kill o))
  | x => x

/-- The elements of n rows and of m more behind them. -/
def joinC (n : Nat) (a b : Nat → Nat → AV) : Nat → Nat → AV := fun i j => bif Nat.blt i n then a i j else b (i - n) j

/-- A row is laid behind a slice. -/
def aAppend (base : Nat) (e : TypeId) (dst src : AV) (s : St) (K : AV → St → Prop) : Prop := match rowsOf s.H src with
  | some (p, m, esz', b) => bif Nat.beq esz' (P.cellsOf e) || Nat.beq m 0 then need p (match dst with
    | .lit n esz a => bif Nat.beq esz (P.cellsOf e) || Nat.beq n 0 then (n = 0 ∨ 0 < m) ∧ (n + m) * P.bytesOf e ≤ 70368744177664 ∧ K (.osl s.H.length 0 (n + m)) { s with H := s.H ++ [.arr (n + m) (P.cellsOf e) (joinC n a b)] } else False
    | .osl o lo n => match s.H.getD o .dead with
      | .arr k esz a => bif Nat.beq esz (P.cellsOf e) then lo + n ≤ k ∧ (n + m) * P.bytesOf e ≤ 70368744177664 ∧
          (bif Nat.ble base o then K (.osl o 0 (n + m)) { fr := s.fr.map (kill o), H := (s.H.map (killObj o)).set o (.arr (n + m) esz (joinC n (fun i j => a (i + lo) j) b)) }
           else K (.osl s.H.length 0 (n + m)) { fr := s.fr, H := (s.H.set o .dead) ++ [.arr (n + m) esz (joinC n (fun i j => a (i + lo) j) b)] }) else False
      | _ => False
    | _ => False) else False
  | none => False

def storeC (cell : Nat → Nat → AV) (i off : Nat) (vs : List AV) : Nat → Nat → AV := fun i' j' =>
  bif Nat.beq i' i && Nat.ble off j' && Nat.blt j' (off + vs.length) then vs.getD (j' - off) .any else cell i' j'

def aStore (a : AV) (vs : List AV) (s : St) (K : St → Prop) : Prop := match a with
  | .ptr o off => match s.H.getD o .dead with
    | .var cs => bif Nat.ble (off + vs.length) cs.length && vs.all oneA then K { s with H := s.H.set o (.var (fillA cs off vs)) } else False
    | _ => False
  | .oel o i off => match s.H.getD o .dead with
    | .arr m esz cell => bif Nat.ble (off + vs.length) esz && vs.all isImm && vs.all oneA then i < m ∧ K { s with H := s.H.set o (.arr m esz (storeC cell i off vs)) } else False
    | _ => False
  | _ => False

/-- Any operation. -/
def aop (Γ : Ctx) (base : Nat) (op : Op) (s : St) (K : AV → St → Prop) : Prop := match op with
  | .alloc t => match zeroCells P t with
    | some z => bif z.all oneA then K (.ptr s.H.length 0) { s with H := s.H ++ [.var z] } else False
    | none => False
  | .box _ x => match cellsA (ev s.fr x) with
    | some vs => bif vs.all oneA then K (.ptr s.H.length 0) { s with H := s.H ++ [.var vs] } else False
    | none => False
  | .store t a x => match cellsA (ev s.fr x) with
    | some vs => bif Nat.beq vs.length (P.cellsOf t) && Nat.blt 0 vs.length then aStore (ev s.fr a) vs s (K (.v undef)) else False
    | none => False
  | .makeSlice t l c => match elemOf P t, ev s.fr l, ev s.fr c with
    | some e, .v (.int _ l), .v (.int _ c) => match zeroCells P e with
      | some z => bif Nat.beq z.length (P.cellsOf e) && Nat.blt 0 z.length && z.all isImm && z.all oneA then 0 ≤ l ∧ l ≤ c ∧ (P.bytesOf e : Int) * c ≤ 140737488355328 ∧ c ≤ 140737488355328 ∧
          K (.osl s.H.length 0 l.toNat) { s with H := s.H ++ [.arr l.toNat (P.cellsOf e) (fun _ j => z.getD j .any)] } else False
      | none => False
    | _, _, _ => False
  | .call c => match c.callee with
    | .builtin .append => match c.argTypes.toList, c.args.toList with
      | [t, t'], [x, y] => match elemOf P t with
        | some e => match zeroCells P e with
          | some z => bif Nat.beq t t' && Nat.beq z.length (P.cellsOf e) && Nat.blt 0 z.length && Nat.blt 0 (P.bytesOf e) then aAppend P base e (ev s.fr x) (ev s.fr y) s K else False
          | none => False
        | none => False
      | _, _ => False
    | .value f => match ev s.fr f with
      | .fn (.func g) caps => match lookC Γ g with
        | some (.eff T) => T (c.args.toList.map (ev s.fr) ++ caps) s.H fun a H => K a { s with H := H }
        | _ => match aq P Γ op s.fr s.H with
          | some (p, a) => need p (K a s)
          | none => False
      | _ => match aq P Γ op s.fr s.H with
        | some (p, a) => need p (K a s)
        | none => False
    | _ => match aq P Γ op s.fr s.H with
      | some (p, a) => need p (K a s)
      | none => False
  | _ => match aq P Γ op s.fr s.H with
    | some (p, a) => need p (K a s)
    | none => False

def condP (c : Bool) (a b : Prop) : Prop := match c with
  | true => a
  | false => b

def guardSlot (ops : Array Oper) (j : Nat) : Option Nat := match ops[j]? with
  | some o => o.dst
  | none => none

/-- Operations in the text's order. -/
def wpL (Γ : Ctx) (base : Nat) (ops : Array Oper) : List Oper → (St → Prop) → St → Prop
  | [], Q, s => Q s
  | o :: rest, Q, s => match o.guard with
    | none => aop P Γ base o.op s fun a s' => wpL Γ base ops rest Q (s'.put o.dst a)
    | some (j, want) => match guardSlot ops j with
      | some d => match s.fr.getD d .any with
        | .v (.bool c) => condP c
            (bif want then aop P Γ base o.op (s.put (some d) (.v (.bool true))) (fun a s' => wpL Γ base ops rest Q (s'.put o.dst a)) else wpL Γ base ops rest Q ((s.put (some d) (.v (.bool true))).put o.dst (.v undef)))
            (bif want then wpL Γ base ops rest Q ((s.put (some d) (.v (.bool false))).put o.dst (.v undef)) else aop P Γ base o.op (s.put (some d) (.v (.bool false))) (fun a s' => wpL Γ base ops rest Q (s'.put o.dst a)))
        | .v (.tuple _) => wpL Γ base ops rest Q (s.put o.dst (.v undef))
        | _ => False
      | none => False

/-- Which operations are quiet, whatever they meet. -/
def quietOp (Γ : Ctx) : Op → Bool
  | .move _ | .assign _ | .pick _ _ _ | .build _ _ | .buildSlice _ _ _ | .load _ _ | .nilCheck _ | .binOp _ _ _ _ _ | .unOp _ _ _ | .convert _ _ _
  | .makeFunc _ _ _ | .slice _ _ _ _ _ | .fieldAddr _ _ _ | .field _ _ _ | .indexAddr _ _ _ | .index _ _ _ | .extract _ _ => true
  | .call c => match c.callee with
    | .builtin .append => false
    | .builtin _ => true
    | .value (.func g) => match lookC Γ g with
      | some (.eff _) => false
      | _ => true
    | _ => false
  | _ => false

mutual
/-- How a value of the machine stands to one that says less: g: how many objects there are. -/
def avLe (g : Nat) : AV → AV → Prop
  | _, .any => True
  | .v (.int k x), .v (.int k' y) => k = k' ∧ x = y
  | .v (.bool x), .v (.bool y) => x = y
  | .v (.string x), .v (.string y) => x = y
  | .sl n e c, .sl n' e' c' => n = n' ∧ e = e' ∧ ∀ i, i < n → ∀ j, j < e → c i j = c' i j
  | .lit n e c, .lit n' e' c' => n = n' ∧ e = e' ∧ ∀ i, i < n → ∀ j, j < e → c i j = c' i j
  | .lit n e c, .sl n' e' c' => n = n' ∧ (n = 0 ∨ e = e' ∧ ∀ i, i < n → ∀ j, j < e → c i j = c' i j)
  | .lit n _ _, .osl o lo m => g ≤ o ∧ n = 0 ∧ lo = 0 ∧ m = 0
  | .osl o lo n, .osl o' lo' n' => o = o' ∧ lo = lo' ∧ n = n'
  | .el n e c i o, .el n' e' c' i' o' => n = n' ∧ e = e' ∧ i = i' ∧ o = o' ∧ ∀ i, i < n → ∀ j, j < e → c i j = c' i j
  | .agg cs, .agg cs' => frLe g cs cs'
  | .tup cs, .tup cs' => frLe g cs cs'
  | .fn f cs, .fn f' cs' => f = f' ∧ frLe g cs cs'
  | a, b => a = b

def frLe (g : Nat) : List AV → List AV → Prop
  | [], [] => True
  | _ :: as, .any :: bs => frLe g as bs
  | a :: as, b :: bs => avLe g a b ∧ frLe g as bs
  | _, _ => False
end

def objLe (g : Nat) : AObj → AObj → Prop
  | _, .dead => True
  | .var cs, .var cs' => frLe g cs cs'
  | .arr n e c, .arr n' e' c' => n = n' ∧ e = e' ∧ ∀ i, i < n → ∀ j, j < e → c i j = c' i j
  | .fro n e c, .fro n' e' c' => n = n' ∧ e = e' ∧ ∀ i, i < n → ∀ j, j < e → c i j = c' i j
  | _, _ => False

def hLe (g : Nat) : List AObj → List AObj → Prop
  | _, [] => True
  | a :: as, b :: bs => objLe g a b ∧ hLe g as bs
  | [], .arr n _ _ :: bs => n = 0 ∧ hLe g [] bs
  | [], _ :: _ => False

mutual
/-- Are all names that occur below a number? -/
def below (n : Nat) : AV → Bool
  | .agg cs => belowL n cs
  | .tup cs => belowL n cs
  | .fn _ cs => belowL n cs
  | .ptr o _ => Nat.blt o n
  | .osl o _ _ => Nat.blt o n
  | .oel o _ _ => Nat.blt o n
  | _ => true
def belowL (n : Nat) : List AV → Bool
  | [] => true
  | a :: r => below n a && belowL n r
end

def belowH (n : Nat) : List AObj → Bool
  | [] => true
  | .var cs :: r => belowL n cs && belowH n r
  | _ :: r => belowH n r

def St.le (base : Nat) (s t : St) : Prop :=
  bif Nat.ble base t.H.length && belowL t.H.length t.fr && belowH t.H.length t.H then frLe s.H.length s.fr t.fr ∧ hLe s.H.length s.H t.H else False

/-- What is known at a loop's head. -/
inductive Ann : Type 1 where
  | mk (X : Type) (pre : X → Prop) (st : X → St) (m : X → Nat) (inner : X → List Ann)

def loops : Code → Nat
  | .seq a b => loops a + loops b
  | .cond _ a b => loops a + loops b
  | .block _ c => loops c
  | .loop _ => 1
  | .scope c => loops c
  | _ => 0

/-- A function's code. -/
def awp (Γ : Ctx) (base : Nat) : Code → List Ann → (Exit → St → Prop) → St → Prop
  | .skip, _, Q, s => Q .normal s
  | .region _ ops draw, _, Q, s => bif draw then (bif ops.toList.all (fun o => quietOp Γ o.op) && Region.lexB .any ops then wpL P Γ base ops ops.toList (Q .normal) s else False)
      else wpL P Γ base ops ops.toList (Q .normal) s
  | .seq a b, an, Q, s => awp Γ base a an (fun e s' => match e with
      | .normal => awp Γ base b (an.drop (loops a)) Q s'
      | e => Q e s') s
  | .cond c a b, an, Q, s => match ev s.fr c with
    | .v (.bool t) => condP t (awp Γ base a an Q s) (awp Γ base b (an.drop (loops a)) Q s)
    | _ => False
  | .block id c, an, Q, s => awp Γ base c an (fun e s' => match e with
      | .exit id' => bif Nat.beq id' id then Q .normal s' else Q (.exit id') s'
      | e => Q e s') s
  | .loop c, an, Q, s => match an with
    | .mk X pre st m inner :: _ => (∃ x : X, pre x ∧ s.le base (st x)) ∧ ∀ x : X, pre x → awp Γ base c (inner x) (fun e s' => match e with
        | .normal => ∃ x' : X, pre x' ∧ m x' < m x ∧ s'.le base (st x')
        | e => Q e s') (st x)
    | [] => False
  | .exit id, _, Q, s => Q (.exit id) s
  | .ret, _, Q, s => Q .ret s
  | _, _, _, _ => False

def resultA (s : St) : ResultVar → R
  | .tmp t => some ([], s.fr.getD t .any)
  | .cell a t => loadA P s.H t (s.fr.getD a .any)

def resultsL (s : St) : List ResultVar → Option (List Prop × List AV)
  | [] => some ([], [])
  | r :: rs => match resultA P s r, resultsL s rs with
    | some (p, a), some (q, as) => some (p ++ q, a :: as)
    | _, _ => none

/-- The value that a function hands back. -/
def resultsA (fn : Func) (s : St) : R := match resultsL P s fn.results.toList with
  | some (p, [a]) => some (p, a)
  | some (p, as) => some (p, .tup as)
  | none => none

/-- A call of a function that hands on nothing of its own. -/
def awpF (Γ : Ctx) (an : List Ann) (f : FuncId) (args : List AV) (K : AV → Prop) : Prop := match P.funcs[f]? with
  | some fn => match fn.body with
    | some c => bif belowL 0 args then awp P Γ 0 c an (fun e s => match e with
        | .normal => match resultsA P fn s with
          | some (p, r) => need p (match view2 s.H r with | (q, r') => need q (K r'))
          | none => False
        | .ret => match resultsA P fn s with
          | some (p, r) => need p (match view2 s.H r with | (q, r') => need q (K r'))
          | none => False
        | _ => False) { fr := args ++ List.replicate (fn.ntmps - args.length) (.v undef), H := [] } else False
    | none => False
  | none => False

end
end Cg
