/-
  What is left to show of each function's code, printed by a program: Cnf. No condition.
-/
import Derived.Test.YtjhiaobcbbnhnaaGreatCnfDefs
import Derived.Test.YtjhiaobcbbnhnaaGreatProg
set_option maxRecDepth 100000
set_option linter.unusedVariables false
namespace Cg
open Go Go.Proofs
end Cg
