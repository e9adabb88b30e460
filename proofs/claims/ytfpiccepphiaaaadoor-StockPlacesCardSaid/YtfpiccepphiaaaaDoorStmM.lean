/-
  Contracts of given functions, or plain laws that they need. No condition.
-/
import Derived.Test.YtfpiccepphiaaaaDoorStmG
namespace Go.Stk
open Go Go.Eng Go.Nest Go.Memo
set_option linter.unusedVariables false
def cfA : Th := .obj 46 [.d (.raw (.int .i64 1)), .d (.list 1 1 (intEl [1])), .d (.raw (.int .i64 1)), .d (.raw (.int .i64 1)), .d (.raw (.int .i64 1)), .d (.raw (.int .i64 1))]
def cfB : Th := .obj 46 [.d (.raw (.int .i64 2)), .d (.list 1 2 (intEl [1, 2])), .d (.raw (.int .i64 2)), .d (.raw (.int .i64 2)), .d (.raw (.int .i64 1)), .d (.raw (.int .i64 1))]
def adA (x1 x2 x3 x4 i : Int) : St := mk 9 100 [(0, .ref 0 0), (3, .ref 9 0), (37, .d (.agg [.raw (.int .i64 0), .raw (.int .i64 0), .raw (.int .i64 0), .raw (.int .i64 0)])), (38, .d (.raw (.int .i64 i)))] (stk9 ⟨x1, x2, x3, x4, 1, 0, none, 0, 0, 0, 0⟩ ++ [(9, cfA)])
def adB (el : Nat → D) (x1 x2 x3 x4 i : Int) : St := mk 10 100 [(0, .ref 0 0), (3, .ref 10 0), (37, .d (.agg [.raw (.int .i64 1), .raw (.int .i64 1), .raw (.int .i64 1), .raw (.int .i64 1)])), (38, .d (.raw (.int .i64 i)))] (stk9 ⟨x1, x2, x3, x4, 1, 1, some (1, el), 1, 1, 1, 1⟩ ++ [(9, .row 3 1 1 el), (10, cfB)])
end Go.Stk
