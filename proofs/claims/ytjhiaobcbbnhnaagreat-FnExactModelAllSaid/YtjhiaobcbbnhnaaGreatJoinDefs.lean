/-
  What is known of the library's callees: joined texts. No condition.
-/
import Derived.Test.YtjhiaobcbbnhnaaGreatNums
namespace Pl
open Go
def bl' (s : ByteArray) : List UInt8 := s.data.toList
def interL (sep : List UInt8) : List (List UInt8) → List UInt8
  | [] => []
  | [x] => x
  | x :: y :: r => x ++ sep ++ interL sep (y :: r)
def joinS (xs : List ByteArray) (sep : ByteArray) : ByteArray := ⟨(interL (bl' sep) (xs.map bl')).toArray⟩
end Pl
namespace Cg
open Go Pl
def K_Join : Nat × Contract := (Nm.strings_Join, .sc (List ByteArray × ByteArray) (fun x => [strs x.1, st x.2]) (fun x => x.1.length ≤ 140737488355328 ∧ (joinS x.1 x.2).size ≤ 140737488355328) fun x => st (joinS x.1 x.2))
end Cg
