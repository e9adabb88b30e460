/-
  Contracts of given functions, or plain laws that they need. No condition.
-/
import Derived.Test.YtmhfkicgmdhooaaDoorTsG
namespace Go.Tab
open Go Go.Eng Go.Nest
set_option linter.unusedVariables false
def nu1 (n k : Int) (s : ByteArray) : St := mk 0 31 [(0, .d (.raw (.int .i64 n))), (3, .d (.raw (.string s))), (4, .d (.raw (.int .i64 k)))] []
def pk1 (r : List ByteArray) (out : ByteArray) (n i : Int) : St := mk 1 23 [(3, .d (.raw (.string out))), (6, .own 0), (7, .d (.raw (.int .i64 n))), (8, .d (.raw (.int .i64 i)))] [(0, .row 9 1 r.length (strEl r))]
def rx1 (q : List Rw) (r : List ByteArray) (last : ByteArray) (k : Int) : St := mk 2 57 [(0, .ref 0 0), (3, .own 2), (4, .d (.raw (.string last))), (5, .d (.raw (.int .i64 k)))] (rt0 q ++ [(2, .row 9 1 r.length (strEl r))])
def rx2 (q : List Rw) (r : List ByteArray) (last : ByteArray) (k : Int) (lk lv : ByteArray) (n i : Int) : St := mk 2 57 [(0, .ref 0 0), (3, .own 2), (4, .d (.raw (.string last))), (5, .d (.raw (.int .i64 k))), (6, .ref 3 0), (22, .own 1), (23, .d (.raw (.int .i64 n))), (24, .d (.raw (.int .i64 i)))] (rt0 q ++ [(2, .row 9 1 r.length (strEl r)), (3, .obj 65 [.d (.raw (.string lk)), .d (.raw (.string lv))])])
end Go.Tab
