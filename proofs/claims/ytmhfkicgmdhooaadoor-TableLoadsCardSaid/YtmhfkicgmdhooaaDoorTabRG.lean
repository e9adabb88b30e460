/-
  Contracts of given functions, or plain laws that they need. No condition.
-/
import Derived.Test.YtmhfkicgmdhooaaDoorTabL
namespace Go.Tab
open Go Go.Eng Go.Nest
set_option linter.unusedVariables false
/-- An operation, as it is handed in. -/
abbrev OpV := Int × ByteArray × ByteArray × ByteArray × Unit
def opD (o : OpV) : D := .agg [.raw (.int .i64 o.1), .raw (.string o.2.1), .raw (.string o.2.2.1), .raw (.string o.2.2.2.1)]
def opAt (l : List OpV) (i : Nat) : OpV := l.getD i (0, ByteArray.empty, ByteArray.empty, ByteArray.empty, ())
def opEl (l : List OpV) (i : Nat) : D := .agg [.raw (.int .i64 (opAt l i).1), .raw (.string (opAt l i).2.1), .raw (.string (opAt l i).2.2.1), .raw (.string (opAt l i).2.2.2.1)]
/-- TableReads at its loop, and ahead of its second Do -/
def rd1 (ops : List OpV) (o : OpV) (l : List Rw) (n i : Int) : St := mk 0 137 [(3, .ref 0 0), (5, .ref 1 0), (26, .d (.list 4 (ops.length) (opEl ops))), (27, .d (.raw (.int .i64 n))), (28, .d (.raw (.int .i64 i)))] [(0, .obj 24 [.d (.raw (.int .i64 o.1)), .d (.raw (.string o.2.1)), .d (.raw (.string o.2.2.1)), .d (.raw (.string o.2.2.2.1))]), (1, .obj 56 [.own 2]), (2, .row 60 2 l.length (rowEl l))]
def rd2 (o : OpV) (l : List Rw) (before told : ByteArray) : St := mk 0 137 [(3, .ref 0 0), (5, .ref 1 0), (8, .d (.raw (.string before))), (9, .d (.raw (.string told)))] [(0, .obj 24 [.d (.raw (.int .i64 o.1)), .d (.raw (.string o.2.1)), .d (.raw (.string o.2.2.1)), .d (.raw (.string o.2.2.2.1))]), (1, .obj 56 [.own 2]), (2, .row 60 2 l.length (rowEl l))]
end Go.Tab
