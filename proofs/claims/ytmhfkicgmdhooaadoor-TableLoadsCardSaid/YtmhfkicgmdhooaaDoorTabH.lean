/-
  Contracts of given functions, or plain laws that they need. No condition.
-/
import Derived.Test.YtmhfkicgmdhooaaDoorTabG
import Derived.Test.YtmhfkicgmdhooaaDoorNestG
namespace Go.Tab
open Go Go.Eng Go.Nest
set_option linter.unusedVariables false
/-- Keys and values, one behind the other. -/
def flatM : List Rw → List ByteArray
  | [] => []
  | r :: l => r.1 :: r.2 :: flatM l
def T1 (r : List ByteArray) : Orc := (Orc.none (fun _ => none)).add 24 true (mPack r)
def tx1 (l : List Rw) (r : List ByteArray) (n i : Int) : St := mk 2 27 [(3, .own 2), (11, .own 1), (12, .d (.raw (.int .i64 n))), (13, .d (.raw (.int .i64 i)))] [(0, .obj 56 [.own 1]), (1, .row 60 2 l.length (rowEl l)), (2, .row 9 1 r.length (strEl r))]
end Go.Tab
