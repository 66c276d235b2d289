/-
  An abstract machine for the program's functions: values with the contents of unchanging memory written out, a small list of the objects that a call owns, and how they stand to the model's worlds. No condition.
-/
import Derived.Still
namespace Cg
open Go

/-- Abstract values. -/
inductive AV where
  | v (x : Value)
  | any
  | agg (cs : List AV)
  | tup (cs : List AV)
  | sl (n esz : Nat) (cell : Nat → Nat → AV)
  | lit (n esz : Nat) (cell : Nat → Nat → AV)
  | el (n esz : Nat) (cell : Nat → Nat → AV) (i off : Nat)
  | ptr (o off : Nat)
  | osl (o lo n : Nat)
  | oel (o i off : Nat)
  | fn (f : Fn) (caps : List AV)

/-- What an object's name stands for: its block, where it begins there, how many elements have room, the cells of one. -/
structure OI where
  b : Option Nat
  base : Nat
  cap : Nat
  esz : Nat

/-- Objects that a call owns, or owned. -/
inductive AObj where
  | dead
  | var (cells : List AV)
  | arr (n esz : Nat) (cell : Nat → Nat → AV)
  | fro (n esz : Nat) (cell : Nat → Nat → AV)

def isOne : Value → Bool
  | .agg _ => false
  | .tuple _ => false
  | _ => true

/-- A cell's reading in memory that stays as it is. -/
def RelI (S : Nat → Prop) (w : World) : AV → Value → Prop
  | .v x, y => y = x ∧ isOne y = true
  | .any, y => isOne y = true
  | .sl n esz cell, y => ∃ a cap, y = .slice a n cap ∧ n ≤ cap ∧ (n = 0 ∨ ∃ b off, a = some ⟨b, off, none⟩ ∧ S b ∧ ∃ c T fr, w.heap[b]? = some (.cells c T fr) ∧
      ∀ i, i < n → ∀ j, j < esz → ∃ x, c[off + i * esz + j]? = some x ∧ RelI S w (cell i j) x)
  | .lit n esz cell, y => ∃ a, y = .slice a n n ∧ (n = 0 ∨ ∃ b off, a = some ⟨b, off, none⟩ ∧ S b ∧ ∃ c T fr, w.heap[b]? = some (.cells c T fr) ∧
      ∀ i, i < n → ∀ j, j < esz → ∃ x, c[off + i * esz + j]? = some x ∧ RelI S w (cell i j) x)
  | _, _ => False

/-- A row of cells from an offset of a block on, in memory that stays as it is. -/
def RowI (S : Nat → Prop) (w : World) (b off n esz : Nat) (cell : Nat → Nat → AV) : Prop :=
  S b ∧ ∃ c T fr, w.heap[b]? = some (.cells c T fr) ∧ ∀ i, i < n → ∀ j, j < esz → ∃ x, c[off + i * esz + j]? = some x ∧ RelI S w (cell i j) x

mutual
/-- A value's reading in a world, the owned objects' names standing for what μ says. -/
def Rel (S : Nat → Prop) (μ : Nat → OI) (w : World) : AV → Value → Prop
  | .v x, y => y = x
  | .any, _ => True
  | .agg cs, y => ∃ vs : List Value, y = .agg vs.toArray ∧ RelL S μ w cs vs
  | .tup cs, y => ∃ vs : List Value, y = .tuple vs.toArray ∧ RelL S μ w cs vs
  | .sl n esz cell, y => RelI S w (.sl n esz cell) y
  | .lit n esz cell, y => RelI S w (.lit n esz cell) y
  | .el n esz cell i off, y => ∃ b o, y = .pointer (some ⟨b, o + i * esz + off, none⟩) ∧ RowI S w b o n esz cell
  | .ptr o off, y => ∃ b, (μ o).b = some b ∧ y = .pointer (some ⟨b, off, none⟩)
  | .osl o lo n, y => match (μ o).b with
    | none => lo = 0 ∧ n = 0 ∧ ∃ a, y = .slice a 0 0
    | some b => lo + n ≤ (μ o).cap ∧ ∃ a, y = .slice (some a) n ((μ o).cap - lo) ∧ (lo < (μ o).cap → a = ⟨b, (μ o).base + lo * (μ o).esz, none⟩)
  | .oel o i off, y => ∃ b, (μ o).b = some b ∧ i < (μ o).cap ∧ y = .pointer (some ⟨b, (μ o).base + i * (μ o).esz + off, none⟩)
  | .fn f caps, y => ∃ vs : List Value, y = .func f #[] vs.toArray ∧ RelL S μ w caps vs
def RelL (S : Nat → Prop) (μ : Nat → OI) (w : World) : List AV → List Value → Prop
  | [], ys => ys = []
  | a :: as, ys => ∃ y r, ys = y :: r ∧ Rel S μ w a y ∧ RelL S μ w as r
end

end Cg
