/-
  Contracts of given functions, or plain laws that they need. No condition.
-/
import Derived.Test.YtmhfkicgmdhooaaDoorTabL
import Derived.Test.YtmhfkicgmdhooaaDoorUnpG
namespace Go.Tab
open Go Go.Eng Go.Nest
set_option linter.unusedVariables false
/-- The callees of Load. -/
def LO (m : Int) (e1 e2 : Value) (r : List ByteArray) (f : Int) : Orc := (((Orc.none (glU m e1 e2)).add 27 false (mUnpV r f)).add 9 false mNew).add 15 false mCheck
def ld1 (r : List ByteArray) (l : List Rw) (i : Int) : St := mk 0 81 [(4, .d (.list 1 r.length (strEl r))), (6, .ref 0 0), (7, .d (.raw (.int .i64 i)))] (tab0 l)
end Go.Tab
