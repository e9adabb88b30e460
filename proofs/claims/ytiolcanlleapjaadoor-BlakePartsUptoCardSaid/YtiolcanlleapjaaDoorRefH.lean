/-
  Contracts of given functions, or plain laws that they need. No condition.
-/
import Derived.Test.YtiolcanlleapjaaDoorRefG
namespace Go.Bla
open Go Go.Eng
set_option linter.unusedVariables false
def hD (h : List W) : AV := .d (.list 1 8 (wel h))
def bD (b : Nat → Int) : AV := .d (.list 1 64 fun i => .raw (.int .u8 (b i)))
/-- The states at the loops of the reference's block. -/
def rs0 (h : List W) (b : Nat → Int) (t : Int) (last : Bool) (k : Nat) (i : Int) (el : Nat → D) : St := mk 0 222 [(0, hD h), (1, bD b), (2, .d (I t)), (3, .d (.raw (.bool last))), (9, .own 0), (10, .d (I i))] [(0, .row 3 1 k el)]
def rs9 (h : List W) (t : Int) (last : Bool) (el : Nat → D) : St := mk 0 222 [(0, hD h), (2, .d (I t)), (3, .d (.raw (.bool last))), (9, .own 0)] [(0, .row 3 1 16 el)]
def rs1 (h m v : List W) (r : Int) : St := mk 0 222 [(0, hD h), (9, .own 0), (11, .own 1), (12, .d (I r))] [(0, .row 3 1 16 (wel m)), (1, .row 3 1 16 (wel v))]
def rs2 (h v : List W) (n : Nat) (i : Int) (el : Nat → D) : St := mk 0 222 [(0, hD h), (11, .own 0), (14, .own 1), (15, .d (I i))] [(0, .row 3 1 16 (wel v)), (1, .row 3 1 n el)]
end Go.Bla
