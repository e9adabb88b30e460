/-
  Contracts of given functions, or plain laws that they need. No condition.
-/
import Derived.Test.YtiolcanlleapjaaDoorBlaH
namespace Go.Bla
open Go Go.Eng
set_option linter.unusedVariables false
/-- The state at block's bytes' loop. -/
def bs0 (T : Nat) (h : List W) (t n : Int) (last : Bool) (b : Nat → Int) (cells : List AV) (i : Int) : St := mk 1 138 [(0, .ref 0 0), (2, .d (I n)), (3, .d (.raw (.bool last))), (8, .ref 1 0), (16, .d (.agg ((List.range 64).map fun i => .raw (.int .u8 (b i))))), (17, .d (I i))] [(0, .obj T (words h ++ [.d (.raw (.int .u64 t))])), (1, .obj 47 cells)]
end Go.Bla
