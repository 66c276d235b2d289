/-
  What is left to show of each function's code, printed by a program: Rows. No condition.
-/
import Derived.Test.YtjhiaobcbbnhnaaGreatRowsDefs
import Derived.Test.YtjhiaobcbbnhnaaGreatProg
set_option maxRecDepth 100000
set_option linter.unusedVariables false
namespace Cg
open Go Go.Proofs
theorem vc_szIntS (l : List Int) (k : Int) : (condP (Decidable.decide (IntKind.i64.wrap (k - (↑l.length : Int)) < (0 : Int))) ((-1 : Int) = Pl.sz1 l.length k) (IntKind.i64.wrap (k - (↑l.length : Int)) = Pl.sz1 l.length k)) = Goal Tryz.prog [] ([]) K_szIntS.1 K_szIntS.2 ((l, k)) := by kernel_rfl

end Cg
